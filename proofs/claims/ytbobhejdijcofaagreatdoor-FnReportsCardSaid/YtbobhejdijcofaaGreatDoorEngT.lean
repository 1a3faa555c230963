/- One instruction. No condition. -/
import Derived.Test.YtbobhejdijcofaaGreatDoorEngS
namespace Go.Proofs.YtbobhejdijcofaaGreatDoor
open Go Go.RowKit
set_option linter.unusedSimpArgs false
set_option linter.unusedVariables false

/-! ### What has failed stays failed -/

theorem freezeH_ok {s : St} {k : Nat} {h : Option Hm} : (freezeH s k h).ok = s.ok := by cases h <;> rfl
theorem freezeAll_ok : ∀ (ks : List Nat) (s : St), (freezeAll s ks).ok = s.ok
  | [], _ => rfl
  | k :: r, s => by simp only [freezeAll]; rw [freezeAll_ok r, freezeH_ok]

theorem storeA_ok {s : St} {sz : Nat} {x p : AV} (h : (storeA s sz x p).ok = true) : s.ok = true := by
  cases p <;> simp only [storeA, fail] at h <;> try (cases h; done)
  rename_i k i off
  cases ho : obGet k s.ob with
  | none => rw [ho] at h; simp [storeH, fail] at h
  | some hm =>
    rw [ho] at h
    simp only [storeH, storeEl, Bool.and_eq_true] at h
    exact h.1

theorem appA_ok {s : St} {key : Nat} {D : Dst} {sz bytes : Nat} {y : Ap} {a : AV} (h : (appA s key D sz bytes y a).ok = true) : s.ok = true := by
  cases a <;> simp only [appA, fail] at h <;> try (cases h; done)
  case nilsl => exact (putM_ok h).1
  case own k =>
    cases ho : obGet k s.ob with
    | none => rw [ho] at h; simp [appOwn, fail] at h
    | some hm => rw [ho] at h; exact (putD_ok h).1

theorem truncA_ok {s : St} {D : Dst} {sz : Nat} {n : Int} {a : AV} (h : (truncA s D sz n a).ok = true) : s.ok = true := by
  cases a <;> simp only [truncA, fail] at h <;> try (cases h; done)
  rename_i k
  cases ho : obGet k s.ob with
  | none => rw [ho] at h; simp [truncH, fail] at h
  | some hm => rw [ho] at h; exact (putD_ok h).1

theorem takeBack_okm : ∀ (ms : List Md) (as os : List AV) (s : St), (takeBack s ms as os).ok = true → s.ok = true
  | [], [], [], s, h => h
  | [], [], q :: os, s, h => by simp [takeBack, fail] at h
  | [], a :: as, os, s, h => by simp [takeBack, fail] at h
  | m :: ms, [], os, s, h => by cases m <;> simp [takeBack, fail] at h
  | m :: ms, a :: as, [], s, h => by cases m <;> cases a <;> simp [takeBack, fail] at h
  | .bor :: ms, a :: as, q :: os, s, h => takeBack_okm ms as os s h
  | .io :: ms, a :: as, q :: os, s, h => by
    unfold takeBack at h
    split at h
    · simp_all
    · rename_i e1 e2 e3; simp only [List.cons.injEq] at e1 e2 e3; obtain ⟨_, rfl⟩ := e1; obtain ⟨_, rfl⟩ := e2; obtain ⟨_, rfl⟩ := e3; have := takeBack_okm _ _ _ _ h; exact this
    · rename_i e1 e2 e3; simp only [List.cons.injEq] at e1 e2 e3; obtain ⟨_, rfl⟩ := e1; obtain ⟨_, rfl⟩ := e2; obtain ⟨_, rfl⟩ := e3; have := takeBack_okm _ _ _ _ h; exact this
    · simp_all
    · simp_all
    · simp_all
    · simp [fail] at h
  | .mov :: ms, a :: as, q :: os, s, h => by
    cases a <;> simp only [takeBack, fail] at h <;> try (cases h; done)
    · have := takeBack_okm _ _ _ _ h; exact this
    · have := takeBack_okm _ _ _ _ h; exact this

theorem callC_ok {s : St} {key : Nat} {D : Dst} {as : List AV} {C : Option Ctr} (h : (callC s key D as C).ok = true) : s.ok = true := by
  cases C with
  | none => simp [callC, fail] at h
  | some C =>
    simp only [callC, callBack] at h
    have h1 := takeBack_okm _ _ _ _ (putM_ok h).1
    unfold unfl at h1
    rw [cond_eq_if] at h1
    split at h1
    · exact h1
    · rwa [freezeAll_ok] at h1

theorem doCall_ok {T : Tbl} {s : St} {key : Nat} {D : Dst} {c : Cal} (h : (doCall T s key D c).ok = true) : s.ok = true ∧ c.ok = true := by
  have := callC_ok h
  simpa using this

theorem doOp_ok {T : Tbl} {s : St} {key : Nat} {D : Dst} {a : AOp} (h : (doOp T s key D a).ok = true) : s.ok = true := by
  cases a <;> simp only [doOp] at h
  case callw => cases h
  case store => have := storeA_ok h; rwa [freezeAll_ok] at this
  case app => exact appA_ok h
  case call => exact (doCall_ok h).1
  case callv => exact (doCall_ok h).1
  case box => have := (putM_ok h).1; rwa [freezeAll_ok] at this
  case build => have := (putM_ok h).1; rwa [freezeAll_ok] at this
  case mkSl => have := (putM_ok h).1; rwa [freezeAll_ok] at this
  case slice => have := (putM_ok h).1; rwa [freezeAll_ok] at this
  case movz => have := (putM_ok h).1; rwa [freezeAll_ok] at this
  case trunc => exact truncA_ok h
  all_goals exact (putM_ok h).1

theorem putG_ok {s : St} {w : Bool} {D : Dst} {m : Mk} (h : (putG s w D m).ok = true) : s.ok = true ∧ (w = true → m.ok = true ∧ m.hs = [] ∧ m.v.lone = true) := by
  obtain ⟨h1, h2⟩ := putD_ok h
  refine ⟨h1, fun e => ?_⟩
  subst e
  simpa using h2

theorem insGG_ok {T : Tbl} {s : St} {key : Nat} {D : Dst} {w : Bool} {a : AOp} (h : (insGG T s key D w a).ok = true) : s.ok = true := by
  unfold insGG at h
  split at h
  · unfold insW at h
    split at h
    · exact (doCall_ok h).1
    · exact (putG_ok h).1
  · exact (putG_ok h).1

theorem doIns_ok {T : Tbl} {s : St} {i : Ins} (h : (doIns T s i).ok = true) : s.ok = true := by
  unfold doIns insG at h
  split at h
  · exact doOp_ok h
  · have := insGG_ok h; simp at this; exact this.1

theorem doList_ok {T : Tbl} : ∀ (is : List Ins) {s : St}, (doList T is s).ok = true → s.ok = true
  | [], _, h => h
  | i :: r, s, h => doIns_ok (doList_ok r h)

/-! ### One operation -/

def cOp (P : Program) (vm ss : List Nat) (D : Dst) (op : Op) (a : AOp) : Bool :=
  match a with
  | .store sz p x => D == .no && cStore P vm ss sz p x op
  | .app sz bytes z a x => cApp P vm ss sz bytes z a x op
  | .call f args => cCall vm ss f args op
  | .callv f args => cCallv vm ss f args op
  | .callp f args => cCall vm ss f args op
  | .pur (.call f args) => cCall vm ss f args op
  | .pur (.callv f args) => cCallv vm ss f args op
  | .pur a => canGuard a && cStill P vm ss op a
  | .pick c a b => cPick vm ss c a b op
  | .flat a => cOp P vm ss D op a
  | .trunc sz x hi => cTrunc P vm ss sz x hi op
  | .movz x => cStill P vm ss op (.mov x)
  | .safe _ a => cOp P vm ss D op a
  | a => cStill P vm ss op a

section
variable {F Iow : Nat → Prop} {w0 : World} {g0 : Gh} {o0 : Obs} {g : Gh} {w w' : World} {tmps : Array Value} {ds : List Deferred} {vm ss ss' : List Nat} {s : St} {P : Program} {o : Oper} {key : Nat} {T : Tbl} {D : Dst}
  {K : Act → World → Prop} {Q : Exit → Act → World → Prop}

theorem chkL_vals (h : FR F g w tmps vm ss s) {xs : Array Operand} {ys : List Src} (hc : chkL vm ss xs.toList ys = true) : (xs.map ({ tmps := tmps, defers := ds } : Act).eval).size = (ys.map (rd s)).length ∧
    ∀ j, j < (ys.map (rd s)).length → SR (SetOf F g s.ob) w g s.ob ((xs.map ({ tmps := tmps, defers := ds } : Act).eval).getD j undef) ((ys.map (rd s)).getD j .any) := by
  refine ⟨by simpa using chkL_len hc, fun j hj => ?_⟩
  have := chkL_get (ds := ds) h j hc (by simpa using hj)
  rw [← getD_toList, Array.toList_map]
  exact this

theorem av_app {l r : List AV} {i : Nat} : (l ++ r).getD i .any = if i < l.length then l.getD i .any else r.getD (i - l.length) .any := els_app_getD

/-- The arguments of a call of a function value. -/
theorem callv_vals {S : Nat → Prop} {ob : Obs} {v1 vals v2 : Array Value} {a1 as a2 : List AV} (n1 : v1.size = a1.length) (n : vals.size = as.length) (n2 : v2.size = a2.length)
    (h1 : ∀ j, j < a1.length → SR S w g ob (v1.getD j undef) (a1.getD j .any)) (h : ∀ j, j < as.length → SR S w g ob (vals.getD j undef) (as.getD j .any)) (h2 : ∀ j, j < a2.length → SR S w g ob (v2.getD j undef) (a2.getD j .any)) :
    (v1 ++ vals ++ v2).size = (a1 ++ as ++ a2).length ∧ ∀ j, j < (a1 ++ as ++ a2).length → SR S w g ob ((v1 ++ vals ++ v2).getD j undef) ((a1 ++ as ++ a2).getD j .any) := by
  refine ⟨by simp [n1, n, n2], fun j hj => ?_⟩
  simp only [List.length_append] at hj
  rw [app_getD, app_getD, els_app_getD, els_app_getD]
  simp only [Array.size_append, List.length_append, n1, n]
  by_cases c1 : j < a1.length + as.length
  · rw [if_pos c1, if_pos c1]
    by_cases c2 : j < a1.length
    · rw [if_pos c2, if_pos c2]; exact h1 j c2
    · rw [if_neg c2, if_neg c2]; exact h _ (by omega)
  · rw [if_neg c1, if_neg c1]; exact h2 _ (by omega)

theorem calleeV_inv {args : List AV} {a : AV} (h : (calleeV args a).ok = true) : ∃ f a1 a2, a = .fn (.func f) a1 a2 ∧ calleeV args a = ⟨true, f, a1 ++ args ++ a2⟩ := by
  unfold calleeV at h ⊢
  split
  · exact ⟨_, _, _, rfl, rfl⟩
  · rename_i hne
    split at h
    · exact absurd rfl (hne _ _ _)
    · cases h

theorem step_still (h : FX F Iow w0 g0 o0 g w tmps vm ss s) (hnd : NdOk vm) (hd : chkDst vm ss o.dst D = some ss') (hfit : ∀ d, o.dst = some d → d < tmps.size) {m : Mk} (hp : StillPost (SetOf F g s.ob) w g s.ob key m ((execOp ({ tmps := tmps, defers := ds } : Act).eval o).run P w))
    (hK : ∀ tmps' w' g', tmps'.size = tmps.size → FX F Iow w0 g0 o0 g' w' tmps' vm ss' (putM s key D m) → K ⟨tmps', ds⟩ w') : o.upon P ⟨tmps, ds⟩ K Q ((execOp ({ tmps := tmps, defers := ds } : Act).eval o).run P w) := by
  obtain ⟨v, w', g', hr, hfx⟩ := h.still hnd hd hfit hp
  rw [hr, Oper.upon_value, put_eq]
  exact hK _ _ _ (putT_size _ _ _) hfx

theorem and_tt {a b : Bool} (h : (a && b) = true) : a = true ∧ b = true := by simpa using h

theorem dv_scal {a : AV} (h : scalA a = true) (ob : Obs) : a.dv ob = a := by cases a <;> first | rfl | (cases h)

theorem handArgs_scal : ∀ (ms : List Md) (as : List AV) (ob ob' : Obs), (∀ a, a ∈ as → scalA a = true) → handArgs ob ms as = handArgs ob' ms as
  | [], _, _, _, _ => rfl
  | _ :: _, [], _, _, _ => rfl
  | m :: ms, a :: as, ob, ob', h => by
    have h1 := h a (by simp)
    simp only [handArgs]
    rw [handArgs_scal ms as ob ob' fun x hx => h x (by simp [hx])]
    congr 1
    cases m
    · simp only [handArg]; rw [dv_scal h1, dv_scal h1]
    · cases a <;> first | rfl | (cases h1)
    · cases a <;> first | rfl | (cases h1)

theorem callG_scal {T : Tbl} {f : Nat} {as : List AV} {ob ob' : Obs} (h : ∀ a, a ∈ as → scalA a = true) : doCallG T ob ⟨true, f, as⟩ = doCallG T ob' ⟨true, f, as⟩ := by
  simp only [doCallG]
  cases T f with
  | none => rfl
  | some C => simp only [callG]; rw [handArgs_scal C.modes as ob ob' h]

theorem flatG_ok {b : Bool} {m : Mk} (h : (flatG b m).ok = true) : b = true ∧ flatG b m = m := by
  unfold flatG at h ⊢
  rw [cond_eq_if] at h ⊢
  split at h
  · rename_i hb
    simp only [Bool.and_eq_true, List.isEmpty_iff] at hb
    rw [if_pos (by simp [hb.1, hb.2.1, hb.2.2])]
    refine ⟨hb.1, ?_⟩
    cases m
    simp only at hb ⊢
    rw [hb.2.1]
  · cases h

/-- Where it does not fail it is the operation itself. -/
theorem flat_same {T : Tbl} {s : St} {key : Nat} {D : Dst} {a : AOp} (hok : (doOp T s key D (.flat a)).ok = true) : doOp T s key D (.flat a) = doOp T s key D a := by
  simp only [doOp] at hok ⊢
  obtain ⟨_, hm⟩ := putM_ok hok
  obtain ⟨hb, he⟩ := flatG_ok hm
  rw [he] at hm ⊢
  have hs : ∀ x, x ∈ flatSrc a → scalA (rd s x) = true := fun x hx => List.all_eq_true.1 hb x hx
  cases a <;> simp only [flat0] at hm ⊢ <;> (try (cases hm; done))
  case callp f args =>
    rw [callG_scal (ob' := s.ob) fun y hy => by
      obtain ⟨x, hx, rfl⟩ := List.mem_map.1 hy
      exact hs x hx]
  case pur b =>
    cases b <;> simp only [flat0] at hm ⊢ <;> (try (cases hm; done))
    rfl
  case len st x =>
    have h1 := hs x (by simp [flatSrc, opsOf])
    have e : stillOp (rd s) [] key (.len st x) = stillOp (rd s) s.ob key (.len st x) := by
      simp only [stillOp]
      revert h1
      generalize rd s x = y
      intro h1
      cases y <;> first | rfl | (cases h1)
    show putM s key D (stillOp (rd s) [] key (.len st x)) = putM s key D (stillOp (rd s) s.ob key (.len st x))
    rw [e]
  all_goals rfl

/-! ### Operations that only read, apart from some blocks -/

theorem purOp_R {T : Tbl} {s : St} {key : Nat} {a : AOp} : purOp T s key a = purR T (rd s) s.ob key a := by cases a <;> rfl

theorem dv1_ob {ob ob' : Obs} {a : AV} (h : ∀ k, k ∈ a.key1 → obGet k ob = obGet k ob') : a.dv1 ob = a.dv1 ob' := by
  cases a <;> (try rfl)
  · rename_i k; simp only [AV.dv1]; rw [h k (by simp [AV.key1])]
  · rename_i k i off; simp only [AV.dv1]; rw [h k (by simp [AV.key1])]

theorem dv_ob {ob ob' : Obs} {a : AV} (h : ∀ k, k ∈ a.keys → obGet k ob = obGet k ob') : a.dv ob = a.dv ob' := by
  cases a <;> (try rfl)
  · rename_i f fi ca
    simp only [AV.keys, List.mem_flatMap, List.mem_append] at h
    simp only [AV.dv]
    rw [List.map_congr_left (l := fi) (g := AV.dv1 ob') fun x hx => dv1_ob fun k hk => h k ⟨x, .inl hx, hk⟩, List.map_congr_left (l := ca) (g := AV.dv1 ob') fun x hx => dv1_ob fun k hk => h k ⟨x, .inr hx, hk⟩]
  · rename_i k; simp only [AV.dv]; rw [h k (by simp [AV.keys])]
  · rename_i k i off; simp only [AV.dv]; rw [h k (by simp [AV.keys])]

theorem ioArg_ob {ob ob' : Obs} {a : AV} (h : ∀ k, k ∈ a.keys → obGet k ob = obGet k ob') : ioArg ob a = ioArg ob' a := by
  cases a <;> (try rfl)
  · rename_i k; simp only [ioArg]; rw [h k (by simp [AV.keys])]
  · rename_i k i off
    cases off <;> (try rfl)
    simp only [ioArg]; rw [h k (by simp [AV.keys])]

theorem handArgs_ob : ∀ (ms : List Md) (as : List AV) {ob ob' : Obs}, (∀ a, a ∈ as → ∀ k, k ∈ a.keys → obGet k ob = obGet k ob') → handArgs ob ms as = handArgs ob' ms as
  | [], _, _, _, _ => rfl
  | _ :: _, [], _, _, _ => rfl
  | m :: ms, a :: as, ob, ob', h => by
    simp only [handArgs]
    rw [handArgs_ob ms as fun x hx => h x (by simp [hx])]
    congr 1
    cases m
    · exact dv_ob (h a (by simp))
    · exact ioArg_ob (h a (by simp))
    · exact ioArg_ob (h a (by simp))

theorem callG_ob {T : Tbl} {f : Nat} {as : List AV} {ob ob' : Obs} (h : ∀ a, a ∈ as → ∀ k, k ∈ a.keys → obGet k ob = obGet k ob') : doCallG T ob ⟨true, f, as⟩ = doCallG T ob' ⟨true, f, as⟩ := by
  simp only [doCallG]
  cases T f with
  | none => rfl
  | some C => simp only [callG]; rw [handArgs_ob C.modes as h]

theorem still_ob {r : Src → AV} {ob ob' : Obs} {key : Nat} {a : AOp} (h : ∀ x, x ∈ opsOf a → ∀ k, k ∈ (r x).keys → obGet k ob = obGet k ob') : stillOp r ob key a = stillOp r ob' key a := by
  cases a <;> (try rfl)
  case load agg sz p =>
    have h1 := h p (by simp [opsOf])
    simp only [stillOp]
    revert h1
    generalize r p = y
    intro h1
    cases y <;> (try rfl)
    rename_i k i off
    simp only [loadA]; rw [h1 k (by simp [AV.keys])]
  case b2s x =>
    have h1 := h x (by simp [opsOf])
    simp only [stillOp]
    revert h1
    generalize r x = y
    intro h1
    cases y <;> (try rfl)
    rename_i k
    simp only [b2sA]; rw [h1 k (by simp [AV.keys])]
  case ixAddr sz x i =>
    have h1 := h x (by simp [opsOf])
    simp only [stillOp]
    revert h1
    generalize r x = y
    intro h1
    cases y <;> (try rfl)
    rename_i k
    simp only [ixAddrA]; rw [h1 k (by simp [AV.keys])]
  case len st x =>
    have h1 := h x (by simp [opsOf])
    simp only [stillOp]
    revert h1
    generalize r x = y
    intro h1
    cases y <;> (try rfl)
    rename_i k
    simp only [lenA]; rw [h1 k (by simp [AV.keys])]

theorem safe0_ob {T : Tbl} {r : Src → AV} {ob ob' : Obs} {key : Nat} {a : AOp} (h : ∀ x, x ∈ safeSrc a → ∀ k, k ∈ (r x).keys → obGet k ob = obGet k ob') : safe0 T r ob key a = safe0 T r ob' key a := by
  have hm : ∀ l : List Src, (∀ x, x ∈ l → x ∈ safeSrc a) → ∀ y, y ∈ l.map r → ∀ k, k ∈ y.keys → obGet k ob = obGet k ob' := fun l hl y hy => by
    obtain ⟨x, hx, rfl⟩ := List.mem_map.1 hy
    exact h x (hl x hx)
  cases a <;> (try rfl)
  case callp f args => simp only [safe0]; rw [callG_ob (hm args fun x hx => hx)]
  case pur b =>
    have h' : ∀ x, x ∈ opsOf b → ∀ k, k ∈ (r x).keys → obGet k ob = obGet k ob' := h
    clear h
    cases b
    case callv => rfl
    case call f args => simp only [safe0, purR]; rw [callG_ob (hm args fun x hx => hx)]
    all_goals
      simp only [safe0, purR]
      rw [still_ob h']
  all_goals
    simp only [safe0]
    rw [still_ob (by simpa only [safeSrc] using h)]

theorem obGet_clrOb2 {d k : Nat} (hk : k / 32 ≠ d) : ∀ ob : Obs, obGet k (clrOb d ob) = obGet k ob
  | [] => rfl
  | p :: r => by
    have ih := obGet_clrOb2 hk r
    by_cases c : p.1 / 32 = d
    · have hne : (p.1 == k) = false := by rw [beq_eq_false_iff_ne]; intro e; exact hk (by rw [← e]; exact c)
      simp only [clrOb, obGet, c, beq_self_eq_true, cond_true, hne, cond_false, ih]
    · have : (p.1 / 32 == d) = false := by simpa using c
      simp only [clrOb, obGet, this, cond_false, ih]

theorem obGet_clrObs {k : Nat} : ∀ (ds : List Nat) (ob : Obs), (∀ d, d ∈ ds → k / 32 ≠ d) → obGet k (clrObs ds ob) = obGet k ob
  | [], _, _ => rfl
  | d :: ds, ob, h => by
    simp only [clrObs]
    rw [obGet_clrObs ds _ fun e he => h e (by simp [he]), obGet_clrOb2 (h d (by simp))]

theorem offA_key {ds : List Nat} {a : AV} (h : offA ds a = true) {k : Nat} (hk : k ∈ a.keys) : ∀ d, d ∈ ds → k / 32 ≠ d := by
  intro d hd e
  simp only [offA, Bool.and_eq_true, Bool.not_eq_true', List.any_eq_false] at h
  have := h.2 k hk
  apply this
  rw [List.any_eq_true]
  exact ⟨d, hd, by simpa using e.symm⟩

theorem safeG_ok {b : Bool} {ds : List Nat} {m : Mk} (h : (safeG b ds m).ok = true) : b = true ∧ m.hs = [] ∧ safeG b ds m = m := by
  unfold safeG at h ⊢
  rw [cond_eq_if] at h ⊢
  split at h
  · rename_i hc
    simp only [Bool.and_eq_true, List.isEmpty_iff] at hc
    refine ⟨hc.1, hc.2.1, ?_⟩
    rw [if_pos (by simp [hc.1, hc.2.1, hc.2.2])]
    obtain ⟨a, b, c⟩ := m
    obtain ⟨_, rfl, _⟩ := hc
    rfl
  · cases h

theorem safe_same {T : Tbl} {s : St} {key : Nat} {D : Dst} {ks : List Nat} {a : AOp} (hok : (doOp T s key D (.safe ks a)).ok = true) : doOp T s key D (.safe ks a) = doOp T s key D a := by
  simp only [doOp] at hok ⊢
  obtain ⟨_, hm⟩ := putM_ok hok
  unfold safeM at hm ⊢
  obtain ⟨hb, -, he⟩ := safeG_ok hm
  rw [he] at hm ⊢
  have hs : ∀ x, x ∈ safeSrc a → ∀ k, k ∈ (rd s x).keys → obGet k (clrObs ks s.ob) = obGet k s.ob := fun x hx k hk =>
    obGet_clrObs ks _ (offA_key (List.all_eq_true.1 hb x hx) hk)
  rw [safe0_ob hs] at hm ⊢
  cases a
  case pur b =>
    cases b
    case callv => simp [safe0, bad] at hm
    all_goals
      simp only [safe0, doOp, purOp_R]
  case pick => rfl
  case callp => rfl
  all_goals first
    | rfl
    | (simp [safe0, isRead0, bad] at hm; done)

theorem op_step (hT : TSound P T) (h : FX F Iow w0 g0 o0 g w tmps vm ss s) (hnd : NdOk vm) (hd : chkDst vm ss o.dst D = some ss') (hfit : ∀ d, o.dst = some d → d < tmps.size) {a : AOp} (hc : cOp P vm ss D o.op a = true) (hok : (doOp T s key D a).ok = true)
    (hK : ∀ tmps' w' g', tmps'.size = tmps.size → FX F Iow w0 g0 o0 g' w' tmps' vm ss' (doOp T s key D a) → K ⟨tmps', ds⟩ w') : o.upon P ⟨tmps, ds⟩ K Q ((execOp ({ tmps := tmps, defers := ds } : Act).eval o).run P w) := by
  have still : ∀ {a : AOp}, cStill P vm ss o.op a = true → (putM s key D (stillOp (rd s) s.ob key a)).ok = true → (∀ tmps' w' g', tmps'.size = tmps.size → FX F Iow w0 g0 o0 g' w' tmps' vm ss' (putM s key D (stillOp (rd s) s.ob key a)) → K ⟨tmps', ds⟩ w') →
      o.upon P ⟨tmps, ds⟩ K Q ((execOp ({ tmps := tmps, defers := ds } : Act).eval o).run P w) := fun hc hok hK =>
    step_still h hnd hd hfit (still_ok (ds := ds) (key := key) h.toFR hc (putM_ok hok).2) hK
  have frozen : ∀ {a : AOp} (ks : List Nat), cStill P vm ss o.op a = true → (putM (freezeAll s ks) key D (stillOp (rd (freezeAll s ks)) (freezeAll s ks).ob key a)).ok = true →
      (∀ tmps' w' g', tmps'.size = tmps.size → FX F Iow w0 g0 o0 g' w' tmps' vm ss' (putM (freezeAll s ks) key D (stillOp (rd (freezeAll s ks)) (freezeAll s ks).ob key a)) → K ⟨tmps', ds⟩ w') →
      o.upon P ⟨tmps, ds⟩ K Q ((execOp ({ tmps := tmps, defers := ds } : Act).eval o).run P w) := fun ks hc hok hK =>
    step_still (h.freezeAll ks) hnd hd hfit (still_ok (ds := ds) (key := key) (h.freezeAll ks).toFR hc (putM_ok hok).2) hK
  cases a
  case store sz p x =>
    simp only [cOp, Bool.and_eq_true, beq_iff_eq] at hc
    obtain ⟨rfl, hc⟩ := hc
    simp only [doOp] at hok hK
    obtain ⟨w', hr, hfx⟩ := (h.freezeAll (rd s x).keys).store (ds := ds) hc hok
    rw [hr, Oper.upon_skip, put_eq]
    have hdn : o.dst = none ∧ ss' = ss := by
      revert hd
      cases o.dst with
      | none => intro hd; exact ⟨rfl, by simpa [chkDst] using hd.symm⟩
      | some d => intro hd; simp [chkDst] at hd
    rw [hdn.1]
    rw [hdn.2] at hK
    exact hK _ _ _ rfl hfx
  case app sz bytes z a x =>
    simp only [cOp] at hc
    simp only [doOp] at hok hK
    obtain ⟨v, w', g', hr, hfx⟩ := h.app (ds := ds) hnd hd hfit hc hok
    rw [hr, Oper.upon_value, put_eq]
    exact hK _ _ _ (putT_size _ _ _) hfx
  case call f args =>
    simp only [cOp] at hc
    simp only [doOp] at hok hK
    unfold cCall at hc
    split at hc
    · rename_i f' xs tys he
      simp only [Bool.and_eq_true, beq_iff_eq] at hc
      obtain ⟨rfl, hc⟩ := hc
      obtain ⟨e1, e2⟩ := chkL_vals (ds := ds) h.toFR hc
      have hcr := callee_run (P := P) (w := w) (o := o) (ρ := ({ tmps := tmps, defers := ds } : Act).eval) (f := f') (v1 := #[]) (v2 := #[]) rfl he
      rw [Array.empty_append, Array.append_empty] at hcr
      rw [hcr]
      exact step_call hT h hnd hd hfit e1 e2 hok hK
    · cases hc
  case callp f args =>
    simp only [cOp] at hc
    simp only [doOp] at hok hK
    obtain ⟨hsok, hm⟩ := putM_ok hok
    simp only [pureM, Bool.and_eq_true, List.isEmpty_iff] at hm
    unfold cCall at hc
    split at hc
    · rename_i f' xs tys he
      simp only [Bool.and_eq_true, beq_iff_eq] at hc
      obtain ⟨rfl, hc⟩ := hc
      obtain ⟨e1, e2⟩ := chkL_vals (ds := ds) h.toFR hc
      have hcr := callee_run (P := P) (w := w) (o := o) (ρ := ({ tmps := tmps, defers := ds } : Act).eval) (f := f') (v1 := #[]) (v2 := #[]) rfl he
      rw [Array.empty_append, Array.append_empty] at hcr
      rw [hcr]
      have := step_callG (s := s) (c := ⟨true, f', args.map (rd s)⟩) hT h e1 e2 hm.1 hm.2.2 hm.2.1
      refine upon_invokes this (fun v w' hR => ?_) (fun c w' hR => ?_) (fun w' hR => ?_)
      · obtain ⟨v', e, hw, hv⟩ := hR
        cases e
        rw [put_eq]
        refine hK _ _ g (putT_size _ _ _) ?_
        have h1 := (h.toFR.grow hw).put hnd hd hfit (pureM (doCallG T s.ob ⟨true, f', args.map (rd s)⟩)).ok (v := v) (a := (doCallG T s.ob ⟨true, f', args.map (rd s)⟩).v) (fun _ => hv)
        have hob : (putM s key D (pureM (doCallG T s.ob ⟨true, f', args.map (rd s)⟩))).ob = s.ob := by cases D <;> rfl
        exact FX.mk' (w := w) h1 h.same (hw.mono fun _ _ c => c.elim) (fun k hk => h.hio k (by rw [hob] at hk; exact hk)) h.fio (by rw [hob]; exact h.par)
      · obtain ⟨v', e, _⟩ := hR; cases e
      · obtain ⟨v', e, _⟩ := hR; cases e
    · cases hc
  case callv f args =>
    simp only [cOp] at hc
    simp only [doOp] at hok hK
    unfold cCallv at hc
    split at hc
    · rename_i y xs tys he
      simp only [Bool.and_eq_true] at hc
      obtain ⟨hcf, hc⟩ := hc
      obtain ⟨e1, e2⟩ := chkL_vals (ds := ds) h.toFR hc
      have hvf := h.toFR.src (ds := ds) hcf
      obtain ⟨fid, a1, a2, ea, ecal⟩ := calleeV_inv (doCall_ok hok).2
      rw [ea] at hvf
      obtain ⟨v1, v2, ev, n1, n2, h1, h2⟩ := hvf
      rw [callee_run (P := P) (w := w) (ρ := ({ tmps := tmps, defers := ds } : Act).eval) ev he]
      rw [ecal] at hok hK
      obtain ⟨q1, q2⟩ := callv_vals (w := w) (g := g) n1 e1 n2 (fun j hj => (h1 j hj).toSR) e2 (fun j hj => (h2 j hj).toSR)
      exact step_call hT h hnd hd hfit (c := ⟨true, fid, a1 ++ args.map (rd s) ++ a2⟩) q1 q2 hok hK
    · cases hc
  case pick c a b =>
    simp only [cOp] at hc
    simp only [doOp] at hok hK
    have hcv : SR (SetOf F g s.ob) w g s.ob (({ tmps := tmps, defers := ds } : Act).eval (match o.op with | .pick x _ _ => x | _ => .const undef)) (rd s c) := by
      unfold cPick at hc
      split at hc
      · rename_i x y z he
        simp only [Bool.and_eq_true] at hc
        rw [he]
        exact h.toFR.src hc.1
      · cases hc
    exact step_still h hnd hd hfit (s_pick (ds := ds) (key := key) h.toFR hc hcv (putM_ok hok).2) hK
  case pur a =>
    simp only [doOp] at hok hK
    obtain ⟨hsok, hm⟩ := putM_ok hok
    have fin : ∀ (v : Value) (w' : World), (purOp T s key a).hs = [] → Same (fun _ => False) w w' → SR (SetOf F g s.ob) w' g s.ob v (purOp T s key a).v → K (({ tmps := tmps, defers := ds } : Act).put o.dst v) w' := by
      intro v w' hh hw hv
      rw [put_eq]
      refine hK _ _ g (putT_size _ _ _) ?_
      have h1 := (h.toFR.grow hw).put hnd hd hfit (purOp T s key a).ok (v := v) (a := (purOp T s key a).v) (fun _ => hv)
      have e : putM s key D (purOp T s key a) = putD s (purOp T s key a).ok (purOp T s key a).v D := by unfold putM; rw [hh]; rfl
      have hob : (putD s (purOp T s key a).ok (purOp T s key a).v D).ob = s.ob := by cases D <;> rfl
      rw [e]
      exact FX.mk' (w := w) h1 h.same (hw.mono fun _ _ c => c.elim) (fun k hk => h.hio k (by rw [hob] at hk; exact hk)) h.fio (by rw [hob]; exact h.par)
    have still2 : canGuard a = true → cStill P vm ss o.op a = true → purOp T s key a = pureM (frzM (stillOp (rd s) s.ob key a)) → o.upon P ⟨tmps, ds⟩ K Q ((execOp ({ tmps := tmps, defers := ds } : Act).eval o).run P w) := by
      intro hg hc he
      rw [he] at hm fin
      simp only [pureM, Bool.and_eq_true] at hm fin
      obtain ⟨v, w', hr, hw, hv⟩ := StillPost.frz h.toFR (still_ok (ds := ds) (key := key) h.toFR hc hm.1)
      rw [hr, Oper.upon_value]
      exact fin v w' trivial hw hv
    cases a
    case call f args =>
      simp only [cOp] at hc
      simp only [purOp, pureM, Bool.and_eq_true, List.isEmpty_iff] at hm fin
      unfold cCall at hc
      split at hc
      · rename_i f' xs tys he
        simp only [Bool.and_eq_true, beq_iff_eq] at hc
        obtain ⟨rfl, hc⟩ := hc
        obtain ⟨e1, e2⟩ := chkL_vals (ds := ds) h.toFR hc
        have hcr := callee_run (P := P) (w := w) (o := o) (ρ := ({ tmps := tmps, defers := ds } : Act).eval) (f := f') (v1 := #[]) (v2 := #[]) rfl he
        rw [Array.empty_append, Array.append_empty] at hcr
        rw [hcr]
        have := step_callG (s := s) (c := ⟨true, f', args.map (rd s)⟩) hT h e1 e2 hm.1 hm.2.2 hm.2.1
        refine upon_invokes this (fun v w' hR => ?_) (fun c w' hR => ?_) (fun w' hR => ?_)
        · obtain ⟨v', e, hw, hv⟩ := hR; cases e; exact fin _ _ trivial hw hv
        · obtain ⟨v', e, _⟩ := hR; cases e
        · obtain ⟨v', e, _⟩ := hR; cases e
      · cases hc
    case callv f args =>
      simp only [cOp] at hc
      simp only [purOp, pureM, Bool.and_eq_true, List.isEmpty_iff] at hm fin
      unfold cCallv at hc
      split at hc
      · rename_i y xs tys he
        simp only [Bool.and_eq_true] at hc
        obtain ⟨hcf, hc⟩ := hc
        obtain ⟨e1, e2⟩ := chkL_vals (ds := ds) h.toFR hc
        have hvf := h.toFR.src (ds := ds) hcf
        have hcok : (calleeV (args.map (rd s)) (rd s f)).ok = true := by
          have := hm.1
          simp only [doCallG, also, Bool.and_eq_true] at this
          exact this.1
        obtain ⟨fid, a1, a2, ea, ecal⟩ := calleeV_inv hcok
        rw [ea] at hvf
        obtain ⟨v1, v2, ev, n1, n2, h1, h2⟩ := hvf
        rw [callee_run (P := P) (w := w) (ρ := ({ tmps := tmps, defers := ds } : Act).eval) ev he]
        rw [ecal] at hm fin
        obtain ⟨q1, q2⟩ := callv_vals (w := w) (g := g) n1 e1 n2 (fun j hj => (h1 j hj).toSR) e2 (fun j hj => (h2 j hj).toSR)
        have := step_callG (s := s) (c := ⟨true, fid, a1 ++ args.map (rd s) ++ a2⟩) hT h q1 q2 hm.1 hm.2.2 hm.2.1
        refine upon_invokes this (fun v w' hR => ?_) (fun c w' hR => ?_) (fun w' hR => ?_)
        · obtain ⟨v', e, hw, hv⟩ := hR; cases e; exact fin _ _ trivial hw hv
        · obtain ⟨v', e, _⟩ := hR; cases e
        · obtain ⟨v', e, _⟩ := hR; cases e
      · cases hc
    all_goals
      simp only [cOp, Bool.and_eq_true] at hc
      first
      | exact still2 hc.1 hc.2 rfl
      | exact absurd hc.1 Bool.false_ne_true
  case callw f args => simp [doOp, fail] at hok
  case flat b =>
    have e := flat_same hok
    rw [e] at hok hK
    exact op_step hT h hnd hd hfit (by simpa only [cOp] using hc) hok hK
  case trunc sz x hi =>
    simp only [cOp] at hc
    simp only [doOp] at hok hK
    obtain ⟨v, w', g', hr, hfx⟩ := h.trunc (ds := ds) hnd hd hfit hc hok
    rw [hr, Oper.upon_value, put_eq]
    exact hK _ _ _ (putT_size _ _ _) hfx
  case movz x => exact frozen (rd s x).keys (a := .mov x) (by simpa only [cOp] using hc) hok hK
  case safe ks b =>
    have e := safe_same hok
    rw [e] at hok hK
    exact op_step hT h hnd hd hfit (by simpa only [cOp] using hc) hok hK
  case box x => exact frozen (rd s x).keys (a := .box x) hc hok hK
  case build z ps => exact frozen _ (a := .build z ps) hc hok hK
  case mkSl sz z n ps => exact frozen _ (a := .mkSl sz z n ps) hc hok hK
  case slice sz x lo hi => exact frozen _ (a := .slice sz x lo hi) hc hok hK
  all_goals
    simp only [cOp] at hc
    simp only [doOp] at hok hK
    exact still hc hok hK

end
end Go.Proofs.YtbobhejdijcofaaGreatDoor
