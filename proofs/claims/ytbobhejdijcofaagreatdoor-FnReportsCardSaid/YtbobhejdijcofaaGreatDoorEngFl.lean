/- Operations that read scalars alone commute with every other operation. No condition. (Under way: see NOTES.) -/
import Derived.Test.YtbobhejdijcofaaGreatDoorEngU
namespace Go.Proofs.YtbobhejdijcofaaGreatDoor
open Go Go.RowKit
set_option linter.unusedSimpArgs false
set_option linter.unusedVariables false

/-- A value that no operation changes but by writing to its place. -/
def neuA : AV → Bool
  | .any => true
  | a => scalA a

/-- What a scalar was it is, and nothing becomes one. -/
def Nb (a b : AV) : Prop := (scalA a = true → b = a) ∧ (scalA b = true → scalA a = true)

theorem Nb.refl (a : AV) : Nb a a := ⟨fun _ => rfl, id⟩
theorem Nb.trans {a b c : AV} (h : Nb a b) (k : Nb b c) : Nb a c := ⟨fun e => by
  have e1 := h.1 e
  have e2 := k.1 (by rw [e1]; exact e)
  rw [e2, e1], fun e => h.2 (k.2 e)⟩

/-- A change of all places. -/
def Phi (φ : AV → AV) : Prop := (∀ a, neuA a = true → φ a = a) ∧ ∀ a, scalA (φ a) = true → scalA a = true

theorem scal_neu {a : AV} (h : scalA a = true) : neuA a = true := by cases a <;> simp_all [neuA, scalA]
theorem Phi.nb {φ : AV → AV} (h : Phi φ) (a : AV) : Nb a (φ a) := ⟨fun e => h.1 a (scal_neu e), h.2 a⟩

theorem phi_clr (d : Nat) : Phi (clr d) := by
  refine ⟨fun a h => ?_, fun a h => ?_⟩
  · cases a <;> simp [neuA, scalA] at h <;> simp [clr, AV.keys, AV.key1]
  · unfold clr at h
    rw [cond_eq_if] at h
    split at h
    · cases h
    · exact h

theorem phi_kill (k : Nat) : Phi (AV.kill k) := by
  refine ⟨fun a h => ?_, fun a h => ?_⟩
  · cases a <;> simp [neuA, scalA] at h <;> simp [AV.kill, AV.names, AV.keys, AV.key1]
  · unfold AV.kill at h
    rw [cond_eq_if] at h
    split at h
    · cases h
    · exact h

theorem phi_fz (k : Nat) (hm : Hm) : Phi (AV.fz k hm) := by
  refine ⟨fun a h => ?_, fun a h => ?_⟩
  · cases a <;> simp [neuA, scalA] at h <;> rfl
  · cases a <;> simp only [AV.fz] at h <;> first | rfl | (cases h; done) | (rw [cond_eq_if] at h; split at h <;> cases h)

/-! ### A neutral value is put: that commutes -/

def noPush : Dst → Bool
  | .push => false
  | _ => true


section
variable {s : St} {c : Bool} {v : AV} {D : Dst}

theorem set_map {φ : AV → AV} (hφ : Phi φ) (hv : neuA v = true) (l : List AV) (n : Nat) : (l.set n v).map φ = (l.map φ).set n v := by
  rw [List.map_set, hφ.1 v hv]

theorem put_map {φ : AV → AV} (hφ : Phi φ) (hv : neuA v = true) (hp : noPush D = true) (ob : Obs) :
    ({ vs := (putD s c v D).vs.map φ, st := (putD s c v D).st.map φ, ob := ob, ok := (putD s c v D).ok } : St) = putD { vs := s.vs.map φ, st := s.st.map φ, ob := ob, ok := s.ok } c v D := by
  cases D <;> simp only [putD, set_map hφ hv]
  cases hp

theorem put_ob : (putD s c v D).ob = s.ob := by cases D <;> rfl

theorem put_ok (b : Bool) : ({ putD s c v D with ok := (putD s c v D).ok && b } : St) = putD { s with ok := s.ok && b } c v D := by
  cases D <;> simp only [putD, Bool.and_right_comm]

theorem put_freezeH (hv : neuA v = true) (hp : noPush D = true) (k : Nat) (h : Option Hm) : freezeH (putD s c v D) k h = putD (freezeH s k h) c v D := by
  cases h with
  | none => rfl
  | some h => simp only [freezeH, put_ob]; exact put_map (phi_fz k h) hv hp _

theorem put_freezeAll (hv : neuA v = true) (hp : noPush D = true) : ∀ (ks : List Nat) (s : St), freezeAll (putD s c v D) ks = putD (freezeAll s ks) c v D
  | [], _ => rfl
  | k :: r, s => by
    simp only [freezeAll, put_ob]
    rw [put_freezeH hv hp]
    exact put_freezeAll hv hp r _

theorem put_kill (hv : neuA v = true) (hp : noPush D = true) (k : Nat) : killAll (putD s c v D) k = putD (killAll s k) c v D := by
  simp only [killAll, put_ob]; exact put_map (phi_kill k) hv hp _

theorem put_clear (hv : neuA v = true) (hp : noPush D = true) (d : Nat) : clear (putD s c v D) d = putD (clear s d) c v D := by
  unfold Go.Proofs.YtbobhejdijcofaaGreatDoor.clear
  rw [put_ob, cond_eq_if, cond_eq_if]
  split
  · exact put_map (phi_clr d) hv hp _
  · rfl

theorem put_withOb (hs : Obs) : withOb (putD s c v D) hs = putD (withOb s hs) c v D := by
  cases D <;> rfl

theorem put_setOb (ob : Obs) : ({ putD s c v D with ob := ob } : St) = putD { s with ob := ob } c v D := by cases D <;> rfl

theorem put_fail : fail (putD s c v D) = putD (fail s) c v D := by cases D <;> simp [fail, putD]

def sameD : Dst → Dst → Bool
  | .var n, .var m => n == m
  | .slot n, .slot m => n == m
  | _, _ => false

theorem sameD_comm (D E : Dst) : sameD D E = sameD E D := by
  cases D <;> cases E <;> first | rfl | (simp only [sameD]; rw [Bool.eq_iff_iff, beq_iff_eq, beq_iff_eq]; exact eq_comm)

theorem put_put {E : Dst} {c' : Bool} {a : AV} (hp : noPush D = true) (he : noPush E = true) (h : sameD D E = false) : putD (putD s c v D) c' a E = putD (putD s c' a E) c v D := by
  have hb : (s.ok && c && c') = (s.ok && c' && c) := Bool.and_right_comm _ _ _
  cases D <;> simp only [noPush] at hp <;> (try (cases hp; done)) <;> cases E <;> simp only [noPush] at he <;> (try (cases he; done)) <;> simp only [putD, hb] <;>
    (try (simp only [sameD, beq_eq_false_iff_ne] at h; rw [List.set_comm _ _ h]))

/-- E is another place. -/
def apartD (D E : Dst) : Bool := noPush E && !sameD D E

theorem put_putH (hv : neuA v = true) (hp : noPush D = true) {E : Dst} (he : apartD D E = true) (key : Nat) (c' : Bool) (a : AV) (hs : Obs) : putH (putD s c v D) key E c' a hs = putD (putH s key E c' a hs) c v D := by
  simp only [apartD, Bool.and_eq_true, Bool.not_eq_true'] at he
  cases hs with
  | nil => exact put_put hp he.1 he.2
  | cons h hs =>
    simp only [putH]
    rw [put_clear hv hp, put_withOb]
    exact put_put hp he.1 he.2

theorem put_putM (hv : neuA v = true) (hp : noPush D = true) {E : Dst} (he : apartD D E = true) (key : Nat) (m : Mk) : putM (putD s c v D) key E m = putD (putM s key E m) c v D := put_putH hv hp he key _ _ _

theorem put_takeBack (hv : neuA v = true) (hp : noPush D = true) : ∀ (ms : List Md) (as os : List AV) (s : St), takeBack (putD s c v D) ms as os = putD (takeBack s ms as os) c v D := by
  intro ms
  induction ms with
  | nil =>
    intro as os s
    cases as <;> cases os <;> simp only [takeBack] <;> first | rfl | exact put_fail
  | cons m ms ih =>
    intro as os s
    cases m <;> cases as <;> (try (simp only [takeBack]; exact put_fail)) <;> cases os <;> (try (simp only [takeBack]; exact put_fail))
    · simp only [takeBack]; exact ih _ _ _
    · rename_i a as o os
      cases a <;> (try (simp only [takeBack]; exact put_fail))
      · cases o <;> (try (simp only [takeBack]; exact put_fail))
        simp only [takeBack, put_ob, put_setOb]
        exact ih _ _ _
      · rename_i k i off
        cases off <;> cases o <;> (try (simp only [takeBack]; exact put_fail))
        simp only [takeBack, put_ob, put_setOb]
        exact ih _ _ _
    · rename_i a as o os
      cases a <;> (try (simp only [takeBack]; exact put_fail))
      · simp only [takeBack]; exact ih _ _ _
      · simp only [takeBack]
        rw [put_kill hv hp]
        exact ih _ _ _

theorem put_unfl (hv : neuA v = true) (hp : noPush D = true) (C : Ctr) (args : List AV) : unfl C (putD s c v D) args = putD (unfl C s args) c v D := by
  unfold unfl
  rw [cond_eq_if, cond_eq_if]
  split
  · rfl
  · exact put_freezeAll hv hp _ _

theorem put_callC (hv : neuA v = true) (hp : noPush D = true) {E : Dst} (he : apartD D E = true) (key : Nat) (args : List AV) (C : Option Ctr) : callC (putD s c v D) key E args C = putD (callC s key E args C) c v D := by
  cases C with
  | none => exact put_fail
  | some C =>
    simp only [callC, callBack, put_ob]
    rw [put_unfl hv hp, put_takeBack hv hp, put_putM hv hp he]

theorem put_doCall {T : Tbl} (hv : neuA v = true) (hp : noPush D = true) {E : Dst} (he : apartD D E = true) (key : Nat) (q : Cal) : doCall T (putD s c v D) key E q = putD (doCall T s key E q) c v D := by
  unfold doCall
  rw [put_ok]
  exact put_callC hv hp he _ _ _

theorem put_storeA (sz : Nat) (x p : AV) : storeA (putD s c v D) sz x p = putD (storeA s sz x p) c v D := by
  cases p <;> (try exact put_fail)
  rename_i k i off
  simp only [storeA, put_ob]
  cases obGet k s.ob with
  | none => exact put_fail
  | some h =>
    simp only [storeH, storeEl, put_ob]
    cases D <;> simp only [putD, Bool.and_right_comm]

theorem put_appA (hv : neuA v = true) (hp : noPush D = true) {E : Dst} (he : apartD D E = true) (key sz bytes : Nat) (y : Ap) (a : AV) : appA (putD s c v D) key E sz bytes y a = putD (appA s key E sz bytes y a) c v D := by
  cases a <;> (try exact put_fail)
  · exact put_putM hv hp he _ _
  · rename_i k
    simp only [appA, put_ob]
    cases obGet k s.ob with
    | none => exact put_fail
    | some h =>
      simp only [appOwn]
      rw [put_map (phi_kill k) hv hp]
      simp only [apartD, Bool.and_eq_true, Bool.not_eq_true'] at he
      simp only [put_ob]
      exact put_put hp he.1 he.2

end

theorem put_truncA {s : St} {c : Bool} {v : AV} {D : Dst} (hv : neuA v = true) (hp : noPush D = true) {E : Dst} (he : apartD D E = true) (sz : Nat) (n : Int) (a : AV) : truncA (putD s c v D) E sz n a = putD (truncA s E sz n a) c v D := by
  cases a <;> (try exact put_fail)
  rename_i k
  simp only [truncA, put_ob]
  cases obGet k s.ob with
  | none => exact put_fail
  | some h =>
    simp only [truncH]
    rw [put_map (phi_kill k) hv hp]
    simp only [apartD, Bool.and_eq_true, Bool.not_eq_true'] at he
    simp only [put_ob]
    exact put_put hp he.1 he.2

/-! ### All that an operation reads -/

def hits : Dst → Src → Bool
  | .var n, .v m => n == m
  | .slot n, .s m => n == m
  | _, _ => false

theorem rd_putD {s : St} {c : Bool} {a : AV} {D : Dst} {x : Src} (hp : noPush D = true) (hx : hits D x = false) : rd (putD s c a D) x = rd s x := by
  cases D <;> simp only [noPush] at hp <;> (try (cases hp; done)) <;> cases x <;> simp only [putD, rd] <;> simp only [hits, beq_eq_false_iff_ne] at hx
  · rename_i n m
    simp only [List.getD_eq_getElem?_getD, List.getElem?_set_ne hx]
  · rename_i n m
    simp only [List.getD_eq_getElem?_getD, List.getElem?_set_ne hx]

def allSrc : AOp → List Src
  | .store _ p x => [p, x]
  | .app _ _ _ a x => [a, x]
  | .callp _ args => args
  | .callw _ args => args
  | .pur a => opsOf a
  | .pick c a b => [c, a, b]
  | .mkFn _ fi ca => fi ++ ca
  | .flat a => flatSrc a
  | .safe _ a => safeSrc a
  | a => opsOf a

section
variable {s : St} {c : Bool} {v : AV} {D : Dst} {T : Tbl}

theorem still_congr3 {r r' : Src → AV} {ob : Obs} {d : Nat} {a : AOp} (h : ∀ x, x ∈ allSrc a → r x = r' x) : stillOp r ob d a = stillOp r' ob d a := by
  cases a <;> simp only [allSrc, opsOf] at h <;> (try (simp only [stillOp]; done))
  case mkFn f fi ca =>
    simp only [stillOp]
    rw [List.map_congr_left (l := fi) fun x hx => h x (List.mem_append.2 (.inl hx)), List.map_congr_left (l := ca) fun x hx => h x (List.mem_append.2 (.inr hx))]
  all_goals exact stillOp_congr rfl (by simpa only [opsOf] using h)

theorem pur_congr3 {s s' : St} {key : Nat} {a : AOp} (hob : s'.ob = s.ob) (h : ∀ x, x ∈ opsOf a → rd s' x = rd s x) : purOp T s' key a = purOp T s key a := by
  cases a
  case call f args => simp only [opsOf] at h; simp only [purOp, hob]; rw [List.map_congr_left h]
  case callv f args =>
    simp only [opsOf] at h
    simp only [purOp, hob]
    rw [List.map_congr_left (l := args) fun x hx => h x (List.mem_cons_of_mem _ hx), h f (by simp)]
  all_goals first
    | (simp only [purOp, hob]; rw [stillOp_congr rfl h]; done)
    | rfl

theorem flat0_congr {r r' : Src → AV} {key : Nat} {a : AOp} (h : ∀ x, x ∈ flatSrc a → r x = r' x) : flat0 T r key a = flat0 T r' key a := by
  cases a <;> simp only [flatSrc] at h <;> (try rfl)
  case callp f args => simp only [flat0]; rw [List.map_congr_left h]
  case pur b =>
    cases b <;> (try rfl)
    rename_i sz x lo hi
    simp only [flat0]
    rw [stillOp_congr (a := .slice sz x lo hi) rfl h]
  all_goals
    simp only [flat0]
    rw [stillOp_congr rfl h]

theorem flat_congr3 {s s' : St} {key : Nat} {a : AOp} (h : ∀ x, x ∈ flatSrc a → rd s' x = rd s x) : flatG ((flatSrc a).all fun x => scalA (rd s' x)) (flat0 T (rd s') key a) = flatG ((flatSrc a).all fun x => scalA (rd s x)) (flat0 T (rd s) key a) := by
  rw [flat0_congr h]
  congr 1
  have : ∀ l : List Src, (∀ x, x ∈ l → rd s' x = rd s x) → (l.all fun x => scalA (rd s' x)) = l.all fun x => scalA (rd s x) := by
    intro l hl
    induction l with
    | nil => rfl
    | cons y l ih => simp only [List.all_cons]; rw [hl y (by simp), ih fun x hx => hl x (by simp [hx])]
  exact this _ h

theorem purR_congr {r r' : Src → AV} {ob : Obs} {d : Nat} {a : AOp} (h : ∀ x, x ∈ opsOf a → r x = r' x) : purR T r ob d a = purR T r' ob d a := by
  by_cases hg : canGuard a = true
  · cases a
    case call f args =>
      simp only [opsOf] at h
      simp only [purR]; rw [List.map_congr_left h]
    case callv f args =>
      simp only [opsOf] at h
      simp only [purR]
      rw [List.map_congr_left (l := args) fun x hx => h x (List.mem_cons_of_mem _ hx), h f (by simp)]
    all_goals first
      | (exfalso; simp [canGuard] at hg; done)
      | (simp only [purR]; rw [stillOp_congr hg h])
  · have hg' : canGuard a = false := by simpa using hg
    cases a
    case call f args => simp [canGuard] at hg
    case callv f args => simp [canGuard] at hg
    all_goals (simp only [purR]; rw [hg']; rfl)

theorem safe0_congr {r r' : Src → AV} {ob : Obs} {key : Nat} {a : AOp} (h : ∀ x, x ∈ safeSrc a → r x = r' x) : safe0 T r ob key a = safe0 T r' ob key a := by
  cases a
  case pur b =>
    have h' : ∀ x, x ∈ opsOf b → r x = r' x := h
    clear h
    cases b
    case callv => rfl
    all_goals
      simp only [safe0]
      exact purR_congr h'
  case pick c x y =>
    simp only [safeSrc] at h
    simp only [safe0]
    rw [h c (by simp), h x (by simp), h y (by simp)]
  case callp f args =>
    simp only [safeSrc] at h
    simp only [safe0]
    rw [List.map_congr_left h]
  case mkFn f fi ca =>
    simp only [safe0]
    rw [still_congr3 (a := .mkFn f fi ca) h]
  all_goals first
    | rfl
    | (simp only [safe0]; rw [still_congr3 (by simpa only [allSrc, safeSrc] using h)])

theorem safeM_congr {r r' : Src → AV} {ob : Obs} {key : Nat} {ds : List Nat} {a : AOp} (h : ∀ x, x ∈ safeSrc a → r x = r' x) : safeM T r ob key ds a = safeM T r' ob key ds a := by
  unfold safeM
  rw [safe0_congr h]
  congr 1
  have : ∀ l : List Src, (∀ x, x ∈ l → r x = r' x) → (l.all fun x => offA ds (r x)) = l.all fun x => offA ds (r' x) := by
    intro l hl
    induction l with
    | nil => rfl
    | cons y l ih => simp only [List.all_cons]; rw [hl y (by simp), ih fun x hx => hl x (by simp [hx])]
  exact this _ h

theorem put_doOp (hv : neuA v = true) (hp : noPush D = true) {E : Dst} (he : apartD D E = true) {key : Nat} {a : AOp} (hr : ∀ x, x ∈ allSrc a → hits D x = false) : doOp T (putD s c v D) key E a = putD (doOp T s key E a) c v D := by
  have hrd : ∀ x, x ∈ allSrc a → ∀ s c, rd (putD s c v D) x = rd s x := fun x hx s c => rd_putD hp (hr x hx)
  have hmap : ∀ l : List Src, (∀ x, x ∈ l → x ∈ allSrc a) → l.map (rd (putD s c v D)) = l.map (rd s) := fun l hl => List.map_congr_left fun x hx => hrd x (hl x hx) s c
  have st : ∀ b : AOp, allSrc b = allSrc a → ∀ s : St, putM (putD s c v D) key E (stillOp (rd (putD s c v D)) (putD s c v D).ob key b) = putD (putM s key E (stillOp (rd s) s.ob key b)) c v D := fun b hb s => by
    rw [put_ob, still_congr3 (r' := rd s) fun x hx => hrd x (hb ▸ hx) s c]
    exact put_putM hv hp he _ _
  cases a
  case store sz p x =>
    simp only [doOp]
    rw [hrd x (by simp [allSrc]), put_freezeAll hv hp, hrd x (by simp [allSrc]), hrd p (by simp [allSrc])]
    exact put_storeA _ _ _
  case app sz bytes z y x =>
    simp only [doOp, put_ob]
    rw [hrd x (by simp [allSrc]), hrd y (by simp [allSrc])]
    exact put_appA hv hp he _ _ _ _ _
  case call f args =>
    simp only [doOp]
    rw [hmap args fun x hx => by simpa [allSrc, opsOf] using hx]
    exact put_doCall hv hp he _ _
  case callv f args =>
    simp only [doOp]
    rw [hmap args fun x hx => by simp [allSrc, opsOf, hx], hrd f (by simp [allSrc, opsOf])]
    exact put_doCall hv hp he _ _
  case callp f args =>
    simp only [doOp, put_ob]
    rw [hmap args fun x hx => by simpa [allSrc] using hx]
    exact put_putM hv hp he _ _
  case pur b =>
    simp only [doOp]
    rw [pur_congr3 (s := s) put_ob fun x hx => hrd x (by simpa [allSrc] using hx) s c]
    exact put_putM hv hp he _ _
  case callw f args => exact put_fail
  case flat b =>
    simp only [doOp]
    rw [flat_congr3 (s := s) (s' := putD s c v D) fun x hx => hrd x (by simpa [allSrc] using hx) s c]
    exact put_putM hv hp he _ _
  case pick q x y =>
    simp only [doOp]
    rw [hrd q (by simp [allSrc]), hrd x (by simp [allSrc]), hrd y (by simp [allSrc])]
    exact put_putM hv hp he _ _
  case trunc sz x y =>
    simp only [doOp]
    rw [hrd x (by simp [allSrc, opsOf]), hrd y (by simp [allSrc, opsOf])]
    exact put_truncA hv hp he _ _ _
  case movz x =>
    simp only [doOp]
    rw [hrd x (by simp [allSrc, opsOf]), put_freezeAll hv hp]
    exact st (.mov x) rfl _
  case safe ks b =>
    simp only [doOp]
    rw [put_ob, safeM_congr (r' := rd s) fun x hx => hrd x (by simpa [allSrc] using hx) s c]
    exact put_putM hv hp he _ _
  case box x =>
    simp only [doOp]
    rw [hrd x (by simp [allSrc, opsOf]), put_freezeAll hv hp, hrd x (by simp [allSrc, opsOf])]
    exact put_putM hv hp he _ _
  case build z ps =>
    simp only [doOp]
    have hk : freezeKeys (putD s c v D) (.build z ps) = freezeKeys s (.build z ps) := by
      simp only [freezeKeys, List.flatMap_def]
      rw [List.map_congr_left fun p hq => by rw [hrd p.2.2 (List.mem_map.2 ⟨p, hq, rfl⟩) s c]]
    rw [hk, put_freezeAll hv hp]
    exact st _ rfl _
  case mkSl sz z n ps =>
    simp only [doOp]
    have hk : freezeKeys (putD s c v D) (.mkSl sz z n ps) = freezeKeys s (.mkSl sz z n ps) := by
      simp only [freezeKeys, List.flatMap_def]
      rw [List.map_congr_left fun p hq => by rw [hrd p.2 (List.mem_map.2 ⟨p, hq, rfl⟩) s c]]
    rw [hk, put_freezeAll hv hp]
    exact st _ rfl _
  case slice sz x lo hi =>
    simp only [doOp]
    rw [hrd x (by simp [allSrc, opsOf]), put_freezeAll hv hp]
    exact st _ rfl _
  all_goals
    simp only [doOp]
    exact st _ rfl _

theorem rdu_rd {s : St} {x : Src} : rdu s x = (match x with | .c a => a | x => unopt (rd s x)) := by cases x <;> rfl

theorem rdu_of {s s' : St} {x : Src} (h : rd s' x = rd s x) : rdu s' x = rdu s x := by
  rw [rdu_rd, rdu_rd]
  cases x <;> simp only [h]

theorem opsOf_all {a : AOp} {x : Src} (h : x ∈ opsOf a) : x ∈ allSrc a := by
  cases a <;> first | exact h | (simp [opsOf] at h)

theorem all_congr3 {f g : Src → Bool} : ∀ {l : List Src}, (∀ x, x ∈ l → f x = g x) → l.all f = l.all g
  | [], _ => rfl
  | x :: l, h => by simp only [List.all_cons]; rw [h x (by simp), all_congr3 fun y hy => h y (by simp [hy])]

theorem guarded_congr3 {s s' : St} {w : Bool} {key : Nat} {a : AOp} (hob : s'.ob = s.ob) (h : ∀ x, x ∈ allSrc a → rd s' x = rd s x) : guarded T s' w key a = guarded T s w key a := by
  have hu : ∀ x, x ∈ allSrc a → rdu s' x = rdu s x := fun x hx => rdu_of (h x hx)
  have hall : ((opsOf a).all fun x => optOk w (rd s' x)) = (opsOf a).all fun x => optOk w (rd s x) := all_congr3 fun x hx => by rw [h x (opsOf_all hx)]
  have dflt : also (canGuard a && (opsOf a).all fun x => optOk w (rd s' x)) (frzM (stillOp (rdu s') s'.ob key a)) = also (canGuard a && (opsOf a).all fun x => optOk w (rd s x)) (frzM (stillOp (rdu s) s.ob key a)) := by
    rw [hall, hob, still_congr3 hu]
  cases a
  case pick q x y =>
    simp only [guarded]
    rw [h q (by simp [allSrc]), h x (by simp [allSrc]), h y (by simp [allSrc]), hu q (by simp [allSrc])]
  case call f args =>
    simp only [guarded, hob]
    rw [hall, List.map_congr_left (l := args) fun x hx => hu x (by simpa [allSrc, opsOf] using hx)]
  case callv f args =>
    simp only [guarded, hob]
    rw [hall, List.map_congr_left (l := args) fun x hx => hu x (by simp [allSrc, opsOf, hx]), hu f (by simp [allSrc, opsOf])]
  all_goals exact dflt

theorem put_putG (hv : neuA v = true) (hp : noPush D = true) {E : Dst} (he : apartD D E = true) (w : Bool) (m : Mk) : putG (putD s c v D) w E m = putD (putG s w E m) c v D := by
  simp only [apartD, Bool.and_eq_true, Bool.not_eq_true'] at he
  exact put_put hp he.1 he.2

theorem put_insGG (hv : neuA v = true) (hp : noPush D = true) {E : Dst} (he : apartD D E = true) {key : Nat} {w : Bool} {a : AOp} (hr : ∀ x, x ∈ allSrc a → hits D x = false) : insGG T (putD s c v D) key E w a = putD (insGG T s key E w a) c v D := by
  have hrd : ∀ x, x ∈ allSrc a → rd (putD s c v D) x = rd s x := fun x hx => rd_putD hp (hr x hx)
  have dflt : ∀ b : AOp, b = a → putG (putD s c v D) w E (guarded T (putD s c v D) w key b) = putD (putG s w E (guarded T s w key b)) c v D := fun b hb => by
    subst hb
    rw [guarded_congr3 put_ob hrd]
    exact put_putG hv hp he _ _
  cases a
  case callw f args =>
    simp only [insGG, insW]
    split
    · have e1 : (args.all fun x => optOk true (rd (putD s c v D) x)) = args.all fun x => optOk true (rd s x) := all_congr3 fun x hx => by rw [hrd x (by simpa [allSrc] using hx)]
      rw [e1, List.map_congr_left (l := args) fun x hx => rdu_of (hrd x (by simpa [allSrc] using hx))]
      exact put_doCall hv hp he _ _
    · exact put_putG hv hp he _ _
  all_goals exact dflt _ rfl

def insSrc (i : Ins) : List Src := (match i.guard with | some g => [g.1] | none => []) ++ allSrc i.op

/-- A neutral value that an operation neither reads nor writes may be put before or behind it. -/
theorem put_doIns (hv : neuA v = true) (hp : noPush D = true) {i : Ins} (he : apartD D i.dst = true) (hr : ∀ x, x ∈ insSrc i → hits D x = false) : doIns T (putD s c v D) i = putD (doIns T s i) c v D := by
  unfold doIns
  unfold insSrc at hr
  cases hg : i.guard with
  | none => rw [hg] at hr; simp only [insG]; exact put_doOp hv hp he fun x hx => hr x (by simpa using hx)
  | some g =>
    rw [hg] at hr
    simp only [insG]
    rw [rd_putD hp (hr g.1 (by simp)), put_ok]
    exact put_insGG hv hp he fun x hx => hr x (by simp [hx])

/-! ### What other places hold behind an operation -/

def NbS (s s' : St) : Prop := ∀ x, Nb (rd s x) (rd s' x)

theorem NbS.refl (s : St) : NbS s s := fun x => Nb.refl _
theorem NbS.trans {a b d : St} (h : NbS a b) (k : NbS b d) : NbS a d := fun x => (h x).trans (k x)

theorem nb_map {φ : AV → AV} (hφ : Phi φ) (s : St) (ob : Obs) (ok : Bool) : NbS s { vs := s.vs.map φ, st := s.st.map φ, ob := ob, ok := ok } := by
  have ha : φ .any = .any := hφ.1 _ rfl
  intro x
  cases x
  · simp only [rd]; rw [getD_map_any φ ha]; exact hφ.nb _
  · simp only [rd]; rw [getD_map_any φ ha]; exact hφ.nb _
  · exact Nb.refl _

theorem nb_same {s s' : St} (h1 : s'.vs = s.vs) (h2 : s'.st = s.st) : NbS s s' := by
  intro x
  cases x <;> simp only [rd, h1, h2] <;> exact Nb.refl _

theorem nb_freezeAll : ∀ (ks : List Nat) (s : St), NbS s (freezeAll s ks)
  | [], s => NbS.refl s
  | k :: r, s => by
    simp only [freezeAll]
    refine NbS.trans ?_ (nb_freezeAll r _)
    cases obGet k s.ob with
    | none => exact NbS.refl _
    | some h => exact nb_map (phi_fz k h) _ _ _

theorem nb_clear (d : Nat) (s : St) : NbS s (clear s d) := by
  unfold Go.Proofs.YtbobhejdijcofaaGreatDoor.clear
  rw [cond_eq_if]
  split
  · exact nb_map (phi_clr d) _ _ _
  · exact NbS.refl _

/-- A place that is not written. -/
def NbE (E : Dst) (s s' : St) : Prop := ∀ x, hits E x = false → Nb (rd s x) (rd s' x)

theorem nbE_put {E : Dst} (he : noPush E = true) {s s' : St} (h : NbS s s') (c : Bool) (a : AV) : NbE E s (putD s' c a E) := fun x hx => by
  rw [rd_putD he hx]; exact h x

theorem nb_putM {E : Dst} (he : noPush E = true) {s s' : St} (h : NbS s s') (key : Nat) (m : Mk) : NbE E s (putM s' key E m) := by
  unfold putM
  cases m.hs with
  | nil => exact nbE_put he h _ _
  | cons p r =>
    simp only [putH]
    refine nbE_put he ?_ _ _
    refine h.trans ((nb_clear key s').trans ?_)
    exact nb_same rfl rfl

theorem nb_takeBack : ∀ (ms : List Md) (as os : List AV) (s : St), NbS s (takeBack s ms as os) := by
  intro ms
  induction ms with
  | nil =>
    intro as os s
    cases as <;> cases os <;> simp only [takeBack] <;> exact nb_same rfl rfl
  | cons m ms ih =>
    intro as os s
    cases m <;> cases as <;> (try (simp only [takeBack]; exact nb_same rfl rfl)) <;> cases os <;> (try (simp only [takeBack]; exact nb_same rfl rfl))
    · simp only [takeBack]; exact ih _ _ _
    · rename_i a as o os
      cases a <;> (try (simp only [takeBack]; exact nb_same rfl rfl))
      · cases o <;> (try (simp only [takeBack]; exact nb_same rfl rfl))
        simp only [takeBack]
        refine NbS.trans ?_ (ih _ _ _)
        exact nb_same rfl rfl
      · rename_i k i off
        cases off <;> cases o <;> (try (simp only [takeBack]; exact nb_same rfl rfl))
        simp only [takeBack]
        refine NbS.trans ?_ (ih _ _ _)
        exact nb_same rfl rfl
    · rename_i a as o os
      cases a <;> (try (simp only [takeBack]; exact nb_same rfl rfl))
      · simp only [takeBack]; exact ih _ _ _
      · simp only [takeBack]
        exact NbS.trans (nb_map (phi_kill _) _ _ _) (ih _ _ _)

theorem nb_doCall {E : Dst} (he : noPush E = true) (s : St) (key : Nat) (q : Cal) : NbE E s (doCall T s key E q) := by
  unfold doCall
  cases T q.f with
  | none => exact fun x _ => nb_same (s := s) rfl rfl x
  | some C =>
    simp only [callC, callBack]
    refine nb_putM he ?_ _ _
    refine NbS.trans ?_ (nb_takeBack _ _ _ _)
    unfold unfl
    rw [cond_eq_if]
    split
    · exact nb_same rfl rfl
    · refine NbS.trans ?_ (nb_freezeAll _ _)
      exact nb_same rfl rfl

theorem nb_store (s : St) (sz : Nat) (x p : AV) : NbS s (storeA s sz x p) := by
  cases p <;> (try exact nb_same rfl rfl)
  rename_i k i off
  simp only [storeA]
  cases obGet k s.ob <;> exact nb_same rfl rfl

theorem nb_app {E : Dst} (he : noPush E = true) (s : St) (key sz bytes : Nat) (y : Ap) (a : AV) : NbE E s (appA s key E sz bytes y a) := by
  cases a <;> (try (exact fun x _ => nb_same (s := s) rfl rfl x))
  · exact nb_putM he (NbS.refl s) _ _
  · rename_i k
    simp only [appA]
    cases obGet k s.ob with
    | none => exact fun x _ => nb_same (s := s) rfl rfl x
    | some h => exact nbE_put he (nb_map (phi_kill k) _ _ _) _ _

theorem nb_trunc {E : Dst} (he : noPush E = true) (s : St) (sz : Nat) (n : Int) (a : AV) : NbE E s (truncA s E sz n a) := by
  cases a <;> (try (exact fun x _ => nb_same (s := s) rfl rfl x))
  rename_i k
  simp only [truncA]
  cases obGet k s.ob with
  | none => exact fun x _ => nb_same (s := s) rfl rfl x
  | some h => exact nbE_put he (nb_map (phi_kill k) _ _ _) _ _

theorem nb_doOp {E : Dst} (he : noPush E = true) (s : St) (key : Nat) (a : AOp) : NbE E s (doOp T s key E a) := by
  cases a <;> simp only [doOp]
  case store => exact fun x _ => ((nb_freezeAll _ s).trans (nb_store _ _ _ _)) x
  case app => exact nb_app he _ _ _ _ _ _
  case call => exact nb_doCall he _ _ _
  case callv => exact nb_doCall he _ _ _
  case callw => exact fun x _ => nb_same (s := s) rfl rfl x
  case box => exact nb_putM he (nb_freezeAll _ s) _ _
  case build => exact nb_putM he (nb_freezeAll _ s) _ _
  case mkSl => exact nb_putM he (nb_freezeAll _ s) _ _
  case slice => exact nb_putM he (nb_freezeAll _ s) _ _
  case movz => exact nb_putM he (nb_freezeAll _ s) _ _
  case trunc => exact nb_trunc he _ _ _ _
  all_goals exact nb_putM he (NbS.refl s) _ _

theorem nb_doIns {i : Ins} (he : noPush i.dst = true) (s : St) : NbE i.dst s (doIns T s i) := by
  unfold doIns
  cases i.guard with
  | none => exact nb_doOp he s _ _
  | some g =>
    simp only [insG]
    have h0 : NbS s { s with ok := s.ok && gdOk (rd s g.1) } := nb_same rfl rfl
    have dflt : ∀ m, NbE i.dst s (putG { s with ok := s.ok && gdOk (rd s g.1) } (gdV g.2 (rd s g.1)) i.dst m) := fun m => nbE_put he h0 _ _
    cases i.op
    case callw f args =>
      simp only [insGG, insW]
      split
      · exact fun x hx => (h0 x).trans (nb_doCall he _ _ _ x hx)
      · exact nbE_put he h0 _ _
    all_goals exact dflt _

/-- What an operation that reads scalars alone gives hangs on scalars alone. -/
theorem flat_nb {s s' : St} {key : Nat} {a : AOp} (h : ∀ x, x ∈ flatSrc a → Nb (rd s x) (rd s' x)) : flatG ((flatSrc a).all fun x => scalA (rd s' x)) (flat0 T (rd s') key a) = flatG ((flatSrc a).all fun x => scalA (rd s x)) (flat0 T (rd s) key a) := by
  by_cases hs : ∀ x, x ∈ flatSrc a → scalA (rd s x) = true
  · exact flat_congr3 fun x hx => (h x hx).1 (hs x hx)
  · have e1 : ((flatSrc a).all fun x => scalA (rd s x)) = false := by
      rw [Bool.eq_false_iff]
      exact fun c => hs (List.all_eq_true.1 c)
    have e2 : ((flatSrc a).all fun x => scalA (rd s' x)) = false := by
      rw [Bool.eq_false_iff]
      exact fun c => hs fun x hx => (h x hx).2 (List.all_eq_true.1 c x hx)
    rw [e1, e2]
    rfl

theorem flatG_neu {b : Bool} {m : Mk} : neuA (flatG b m).v = true ∧ (flatG b m).hs = [] := by
  unfold flatG
  rw [cond_eq_if]
  split
  · rename_i h
    simp only [Bool.and_eq_true] at h
    exact ⟨scal_neu h.2.2, rfl⟩
  · exact ⟨rfl, rfl⟩

def isFlat (i : Ins) : Bool := i.guard.isNone && (match i.op with
  | .flat _ => true
  | _ => false)

/-- An operation that reads scalars alone commutes with every other one. -/
theorem flat_com {s : St} {i j : Ins} (hj : isFlat j = true) (hp : noPush i.dst = true) (hq : noPush j.dst = true) (hd : sameD j.dst i.dst = false) (h1 : ∀ x, x ∈ insSrc j → hits i.dst x = false) (h2 : ∀ x, x ∈ insSrc i → hits j.dst x = false) :
    doIns T (doIns T s i) j = doIns T (doIns T s j) i := by
  obtain ⟨D, key, gd, op⟩ := j
  simp only [isFlat, Bool.and_eq_true, Option.isNone_iff_eq_none] at hj
  obtain ⟨rfl, hop⟩ := hj
  cases op <;> (try (cases hop; done))
  rename_i a
  have hj : ∀ s : St, doIns T s ⟨D, key, none, .flat a⟩ = putD s (flatG ((flatSrc a).all fun x => scalA (rd s x)) (flat0 T (rd s) key a)).ok (flatG ((flatSrc a).all fun x => scalA (rd s x)) (flat0 T (rd s) key a)).v D := fun s => by
    simp only [doIns, insG, doOp]
    unfold putM
    rw [flatG_neu.2]
    rfl
  rw [hj, hj, flat_nb (s := s) fun x hx => nb_doIns hp s x (h1 x (by simpa [insSrc, allSrc] using hx))]
  refine (put_doIns flatG_neu.1 hq ?_ h2).symm
  simp only [apartD, Bool.and_eq_true, Bool.not_eq_true']
  exact ⟨hp, hd⟩

end
end Go.Proofs.YtbobhejdijcofaaGreatDoor
