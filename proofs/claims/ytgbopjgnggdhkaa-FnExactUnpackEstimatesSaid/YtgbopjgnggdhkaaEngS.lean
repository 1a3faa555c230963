/- One operation of a statement. No condition. -/
import Derived.Test.YtgbopjgnggdhkaaEngR
namespace Go.Proofs.Ytgbopjgnggdhkaa
open Go Go.RowKit
set_option linter.unusedSimpArgs false
set_option linter.unusedVariables false

def cCall (vm ss : List Nat) (f : Nat) (args : List Src) : Op → Bool
  | .call { callee := .value (.func f'), args := xs, argTypes := _ } => f' == f && chkL vm ss xs.toList args
  | _ => false

def cCallv (vm ss : List Nat) (fs : Src) (args : List Src) : Op → Bool
  | .call { callee := .value y, args := xs, argTypes := _ } => chkSrc vm ss y fs && chkL vm ss xs.toList args
  | _ => false

/-- Every contract of the table holds. -/
def TSound (P : Program) (T : Tbl) : Prop := ∀ f C, T f = some C → Sound P f C

section
variable {F Iow : Nat → Prop} {w0 : World} {g0 : Gh} {o0 : Obs} {g : Gh} {w w' : World} {tmps : Array Value} {ds : List Deferred} {vm ss ss' : List Nat} {s : St} {P : Program} {o : Oper} {key : Nat} {T : Tbl} {D : Dst}
  {K : Act → World → Prop} {Q : Exit → Act → World → Prop}

theorem FX.unS (h : FX F Iow w0 g0 o0 g w tmps vm ss s) : FX F Iow w0 g0 o0 g w tmps vm ss (unS s) := ⟨h.toFR.unS, h.same, h.hio, h.fio, h.par⟩
theorem FX.setOk (h : FX F Iow w0 g0 o0 g w tmps vm ss s) (ok : Bool) : FX F Iow w0 g0 o0 g w tmps vm ss { s with ok := ok } := ⟨h.toFR.setOk ok, h.same, h.hio, h.fio, h.par⟩

theorem upon_invokes {f : FuncId} {vals : Array Value} {R : Ending → World → Prop} (h : Invokes P f vals w R) {a : Act} (hr : ∀ v w', R (.returned v) w' → K (a.put o.dst v) w') (hp : ∀ c w', ¬ R (.panicked c) w') (hout : ∀ w', ¬ R .outgrown w') :
    o.upon P a K Q ((callFunc f vals).run P w) := by
  unfold Invokes at h
  split at h
  · rename_i v w' e; rw [e]; exact hr _ _ h
  · rename_i f' args' w' e
    rw [e, Oper.upon_enter]
    refine Calls.mono h fun en w'' he => ?_
    cases en with
    | returned v => exact hr _ _ he
    | panicked c => exact (hp _ _ he).elim
    | outgrown => exact (hout _ he).elim
  · exact h.elim

theorem put_eq (tmps : Array Value) (ds : List Deferred) (dst : Option Nat) (v : Value) : ({ tmps := tmps, defers := ds } : Act).put dst v = ⟨putT tmps dst v, ds⟩ := by cases dst <;> rfl

theorem putT_size (tmps : Array Value) (dst : Option Nat) (v : Value) : (putT tmps dst v).size = tmps.size := by cases dst <;> simp [putT]

theorem callee_run {ρ : Operand → Value} {y : Operand} {xs : Array Operand} {tys : Array TypeId} {f : FuncId} {v1 v2 : Array Value} (hy : ρ y = .func (.func f) v1 v2) (ho : o.op = .call { callee := .value y, args := xs, argTypes := tys }) :
    (execOp ρ o).run P w = (callFunc f (v1 ++ xs.map ρ ++ v2)).run P w := by
  unfold execOp
  simp only [ho, resolve, hy, Deferred.ofValue, invoke, Sem.run_bind, Sem.run_pure, Result.andThen_ok]

/-- A call: the frame behind it. -/
theorem step_call (hT : TSound P T) (h : FX F Iow w0 g0 o0 g w tmps vm ss s) (hnd : vm.Nodup) (hd : chkDst vm ss o.dst D = some ss') (hfit : ∀ d, o.dst = some d → d < tmps.size) {c : Cal} {vals : Array Value}
    (hsz : vals.size = c.args.length) (hv : ∀ j, j < c.args.length → SR (SetOf F g s.ob) w g s.ob (vals.getD j undef) (c.args.getD j .any)) (hok : (doCall T s key D c).ok = true)
    (hK : ∀ tmps' w' g', tmps'.size = tmps.size → FX F Iow w0 g0 o0 g' w' tmps' vm ss' (doCall T s key D c) → K ⟨tmps', ds⟩ w') : o.upon P ⟨tmps, ds⟩ K Q ((callFunc c.f vals).run P w) := by
  unfold doCall at hok hK
  cases hC : T c.f with
  | none => rw [hC] at hok; simp [callC, fail] at hok
  | some C =>
    rw [hC] at hok hK
    have := (h.setOk (s.ok && c.ok)).call (key := key) hnd hd hfit (hT _ _ hC) hsz hv hok
    refine upon_invokes this (fun v w' hR => ?_) (fun c w' hR => ?_) (fun w' hR => ?_)
    · obtain ⟨v', g', e, hfx⟩ := hR
      cases e
      rw [put_eq]
      exact hK _ _ _ (putT_size _ _ _) hfx
    · obtain ⟨v', g', e, _⟩ := hR; cases e
    · obtain ⟨v', g', e, _⟩ := hR; cases e

/-- A call behind a guard: it only gives a value. -/
theorem step_callG (hT : TSound P T) (h : FX F Iow w0 g0 o0 g w tmps vm ss s) {c : Cal} {vals : Array Value}
    (hsz : vals.size = c.args.length) (hv : ∀ j, j < c.args.length → SR (SetOf F g s.ob) w g s.ob (vals.getD j undef) (c.args.getD j .any)) (hok : (doCallG T s.ob c).ok = true) (hl : (doCallG T s.ob c).v.lone = true) (hh : (doCallG T s.ob c).hs = []) :
    Invokes P c.f vals w fun e w' => ∃ v, e = .returned v ∧ Same (fun _ => False) w w' ∧ SR (SetOf F g s.ob) w' g s.ob v (doCallG T s.ob c).v := by
  simp only [doCallG, also, Bool.and_eq_true] at hok hl hh ⊢
  cases hC : T c.f with
  | none => rw [hC] at hok; simp [callG, bad] at hok
  | some C =>
    rw [hC] at hok hl hh
    simp only [callG, also, Bool.and_eq_true, beq_iff_eq, Bool.or_eq_true] at hok hl hh ⊢
    obtain ⟨_, ⟨hlen, ⟨hsh, hbor⟩, hfl, hqok⟩, had⟩ := hok
    have hS := hT _ _ hC
    have hms : ∀ j, C.modes.getD j .bor = .bor := by
      intro j
      simp only [List.all_eq_true, beq_iff_eq] at hbor
      rw [List.getD_eq_getElem?_getD]
      cases hm : C.modes[j]? with
      | none => rfl
      | some m => exact hbor m (List.mem_of_getElem? hm)
    have hio : ∀ k, k ∉ ioKeys C.modes c.args := by
      have gen : ∀ (ms : List Md) (as : List AV), (∀ m, m ∈ ms → m = .bor) → ioKeys ms as = [] := by
        intro ms
        induction ms with
        | nil => intro as _; rfl
        | cons m ms ih =>
          intro as hall
          have := hall m (by simp)
          subst this
          cases as with
          | nil => rfl
          | cons a as => exact ih as fun m hm => hall m (by simp [hm])
      simp only [List.all_eq_true, beq_iff_eq] at hbor
      intro k hk
      rw [gen _ _ hbor] at hk; simp at hk
    have hioe : ioKeys C.modes c.args = [] := List.eq_nil_iff_forall_not_mem.2 hio
    let Fc : Nat → Prop := fun b => SetOf F g s.ob b ∧ ∀ k, (k ∈ ioKeys C.modes c.args ∨ k ∈ borKeys C.modes c.args) → liv g s.ob k → g.β k ≠ b
    have hargs := h.toFR.args (Fc := Fc) (ms := C.modes) hsz hv (by rw [hioe]; rfl) (by rw [hioe]; rfl) hlen hsh (fun b hb => hb)
    have hhl := handArgs_len s.ob C.modes c.args hlen
    obtain ⟨hflat, hinv⟩ := hS.2 Fc (callGh g c.args) w (handArgs s.ob C.modes c.args) vals hsh (by rw [hsz, hhl]) (by rw [hhl]; exact hargs) hqok
    refine hinv.mono fun e w' he => ?_
    obtain ⟨v, gb, obb, κ, rfl, B⟩ := he
    have hnone : ∀ k, ¬ liv (callGh g c.args) (initOb 0 (handArgs s.ob C.modes c.args)) k := by
      rintro k ⟨⟨hm, hg⟩, _⟩
      obtain ⟨j, k0, _, _, hne, _⟩ := argBlk hlen hsh hg
      exact hne (hms j)
    refine ⟨v, rfl, B.same.mono fun b _ ⟨k, hk, _⟩ => (hnone k hk).elim, ?_⟩
    -- the value
    have hval : ∃ S' : Nat → Prop, RV S' w' gb obb κ v (C.F (handArgs s.ob C.modes c.args)).r ∧ (∀ b, SetOf F g s.ob b → S' b) ∧
        ∀ sz els, fpos (C.F (handArgs s.ob C.modes c.args)).r 0 → fmHm (partOf (C.F (handArgs s.ob C.modes c.args)).r 0) = some ⟨sz, els⟩ → obGet (κ 0) obb = some ⟨sz, els⟩ → Home (SetOf F g s.ob) w' (gb.β (κ 0)) (gb.cap (κ 0)) sz els := by
      rcases hfl with hfl | hfl
      · exact ⟨SetOf F g s.ob, flat_RV (hflat hfl) B.val, fun _ c => c, fun sz els h1 h2 h3 => flat_Home (flat_part (hflat hfl) h1 h2) (B.home (κ 0) ⟨sz, els⟩ h3)⟩
      · have hSS : ∀ b, SetOf F g s.ob b → SetOf Fc gb obb b := by
          refine fun b hb => .inl ⟨hb, fun k hk _ _ => ?_⟩
          have hbe : ∀ (ms : List Md) (as : List AV), (∀ a, a ∈ as → a.keys = []) → borKeys ms as = [] := by
            intro ms
            induction ms with
            | nil => intro as _; cases as <;> rfl
            | cons m ms ih =>
              intro as hall
              cases as with
              | nil => cases m <;> rfl
              | cons a as =>
                have i1 := ih as fun a ha => hall a (by simp [ha])
                cases m <;> simp [borKeys, i1, hall a (by simp)]
          simp only [List.all_eq_true, List.isEmpty_iff] at hfl
          rcases hk with hk | hk
          · exact hio k hk
          · rw [hbe _ _ hfl] at hk; simp at hk
        exact ⟨_, B.val, hSS, fun sz els _ _ h3 => (B.home (κ 0) ⟨sz, els⟩ h3).mono (Same.refl _ _) (fun _ => rfl) fun b _ hb => hSS b hb⟩
    obtain ⟨S', hval, hSS, hHome⟩ := hval
    revert hval had hl hh hHome
    generalize (C.F (handArgs s.ob C.modes c.args)).r = r
    intro had hl hh hval hHome
    have blk : ∀ {sz : Nat} {els : List AV}, obGet (κ 0) obb = some ⟨sz, els⟩ → Home (SetOf F g s.ob) w' (gb.β (κ 0)) (gb.cap (κ 0)) sz els →
        VR (SetOf F g s.ob) w' (.slice (some ⟨gb.β (κ 0), 0, none⟩) els.length (gb.cap (κ 0))) (.sl sz els) ∧ (gb.cap (κ 0) = 0 → VR (SetOf F g s.ob) w' (.slice none 0 0) (.sl sz els)) ∧
        ∀ i off, i < els.length → VR (SetOf F g s.ob) w' (.pointer (some ⟨gb.β (κ 0), i * sz + off, none⟩)) (.ptr sz els i off) := by
      intro sz els ho hH
      obtain ⟨rr, hcell⟩ := hH.cell
      refine hH.sl hcell (fun _ c => c) fun hp c => ?_
      have hlt := h.toFR.setLt c
      rcases B.hio (κ 0) ⟨⟨_, ho⟩, hp⟩ with hge | ⟨k', hk', _⟩
      · omega
      · exact hnone k' hk'
    cases r <;> simp [adoptF, adopt, just, bad, when] at had hl hh
    case fresh sz els =>
      obtain ⟨q1, q2, _⟩ := blk hval.1 (hHome sz els ⟨rfl, rfl⟩ rfl hval.1)
      rcases hval.2 with e | ⟨e0, e⟩
      · rw [e]; exact q1.toSR
      · rw [e]; exact (q2 e0).toSR
    case mem sz els =>
      obtain ⟨_, _, q3⟩ := blk hval.1 (hHome sz els ⟨rfl, rfl⟩ rfl hval.1)
      obtain ⟨_, hl1, e⟩ := hval
      have := q3 0 0 (by omega)
      rw [Nat.zero_mul, Nat.zero_add] at this
      rw [e]; exact this.toSR
    all_goals first
      | (simp [AV.lone] at hl; done)
      | exact (VR.mono (S' := SetOf F g s.ob) (Same.refl S' w') (fun b _ c => hSS b c) hval).toSR

end
end Go.Proofs.Ytgbopjgnggdhkaa
