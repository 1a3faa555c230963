/- Contracts: a function's small form, run as long as is needed. No condition. -/
import Derived.Test.YtbobhejdijcofaaGreatDoorEngX
namespace Go.Proofs.YtbobhejdijcofaaGreatDoor
open Go Go.RowKit
set_option linter.unusedSimpArgs false
set_option linter.unusedVariables false

/-! ### More rounds change nothing -/

theorem iter_mono {f f' : St → Res} {keep ot rt : List Bool} (hf : ∀ s, (f s).2.ok = true → f' s = f s) (hfm : ∀ s, (f s).2.ok = true → s.ok = true) : ∀ n m s, n ≤ m → (iter f keep ot rt n s).2.ok = true → iter f' keep ot rt m s = iter f keep ot rt n s
  | 0, _, s, _, h => by simp [iter, fail] at h
  | n + 1, 0, s, hm, _ => by omega
  | n + 1, m + 1, s, hm, h => by
    simp only [iter] at h ⊢
    have hok : (f s).2.ok = true := by
      revert h
      generalize f s = r
      intro h
      obtain ⟨e, s'⟩ := r
      cases e
      · simp only [maskX, thenR] at h; have h3 := iter_okm hfm n _ h; rwa [keepS_ok] at h3
      · simpa only [maskX, thenR, keepS_ok] using h
      · simpa only [maskX, thenR, keepS_ok] using h
    rw [hf s hok]
    revert h
    generalize f s = r
    intro h
    obtain ⟨e, s'⟩ := r
    cases e
    · simp only [maskX, thenR] at h ⊢; exact iter_mono hf hfm n m _ (by omega) h
    · rfl
    · rfl

theorem exec_mono {T : Tbl} {L M : Nat} (hLM : L ≤ M) : ∀ (ir : IR) {s : St}, (exec T L ir s).2.ok = true → exec T M ir s = exec T L ir s
  | .skip, _, _ => rfl
  | .region _ is, s, _ => rfl
  | .test _ is c a b, s, h => by
    simp only [exec, testR] at h ⊢
    cases hv : rd (doList T is s) c <;> rw [hv] at h <;> simp only [condR, fail] at h ⊢
    split at h
    · rename_i hb; rw [if_pos hb, if_pos hb]; exact exec_mono hLM a h
    · rename_i hb; rw [if_neg hb, if_neg hb]; exact exec_mono hLM b h
  | .anyo k is alts .skip, s, h => rfl
  | .anyo k is alts (.cond c a b), s, h => by
    simp only [exec, testR] at h ⊢
    cases hv : rd (anyS T k is alts s) c <;> rw [hv] at h <;> simp only [condR, fail] at h ⊢
    split at h
    · rename_i hb; rw [if_pos hb, if_pos hb]; exact exec_mono hLM a h
    · rename_i hb; rw [if_neg hb, if_neg hb]; exact exec_mono hLM b h
  | .anyo k is alts (.region _ _), s, h => rfl
  | .anyo k is alts (.test _ _ _ _ _), s, h => rfl
  | .anyo k is alts (.anyo _ _ _ _), s, h => rfl
  | .anyo k is alts (.seq _ _), s, h => rfl
  | .anyo k is alts (.block _ _), s, h => rfl
  | .anyo k is alts (.loop _ _ _ _), s, h => rfl
  | .anyo k is alts (.mask _ _), s, h => rfl
  | .anyo k is alts (.exit _), s, h => rfl
  | .anyo k is alts .ret, s, h => rfl
  | .seq a b, s, h => by
    simp only [exec] at h ⊢
    have hok : (exec T L a s).2.ok = true := by
      revert h
      generalize exec T L a s = r
      intro h
      obtain ⟨e, s'⟩ := r
      cases e
      · have h3 := exec_okm b h; exact h3
      · exact h
      · exact h
    rw [exec_mono hLM a hok]
    revert h
    generalize exec T L a s = r
    intro h
    obtain ⟨e, s'⟩ := r
    cases e
    · exact exec_mono hLM b h
    · rfl
    · rfl
  | .cond c a b, s, h => by
    simp only [exec] at h ⊢
    cases hv : rd s c <;> rw [hv] at h <;> simp only [condR, fail] at h ⊢
    split at h
    · rename_i hb; rw [if_pos hb, if_pos hb]; exact exec_mono hLM a h
    · rename_i hb; rw [if_neg hb, if_neg hb]; exact exec_mono hLM b h
  | .block id a, s, h => by
    simp only [exec] at h ⊢
    have hok : (exec T L a s).2.ok = true := by
      revert h
      generalize exec T L a s = r
      intro h
      obtain ⟨e, s'⟩ := r
      cases e
      · exact h
      · simp only [inBlk] at h; rw [cond_eq_if] at h; split at h <;> exact h
      · exact h
    rw [exec_mono hLM a hok]
  | .loop keep out rt a, s, h => by
    simp only [exec] at h ⊢
    exact iter_mono (f := exec T L a) (f' := exec T M a) (fun s hs => exec_mono hLM a hs) (fun s hs => exec_okm a hs) L M (keepS keep s) hLM h
  | .mask m a, s, h => by
    simp only [exec] at h ⊢
    rw [exec_mono hLM a (maskN_okm h)]
  | .exit _, _, _ => rfl
  | .ret, _, _ => rfl

theorem finish_ok {fn : AFn} {modes : List Md} {args : List AV} {r : Res} (h : (finish fn modes args r).ok = true) : r.2.ok = true := by
  obtain ⟨e, s⟩ := r
  cases e <;> simp only [finish, fin1, Rs.bad, Bool.and_eq_true] at h
  · exact h.1
  · cases h
  · exact h.1

theorem runF_mono {T : Tbl} {L M : Nat} (hLM : L ≤ M) {fn : AFn} {modes : List Md} {args : List AV} (h : (runF T L fn modes args).ok = true) : runF T M fn modes args = runF T L fn modes args := by
  simp only [runF, chkR, Bool.and_eq_true] at h ⊢
  rw [exec_mono hLM fn.body (finish_ok h.2)]

/-- As many rounds as are needed. -/
noncomputable def limF (T : Tbl) (fn : AFn) (modes : List Md) (args : List AV) : Rs :=
  runF T (Classical.epsilon fun L => (runF T L fn modes args).ok = true) fn modes args

theorem limF_eq {T : Tbl} {L : Nat} {fn : AFn} {modes : List Md} {args : List AV} {r : Rs} (h : runF T L fn modes args = r) (hok : r.ok = true) : limF T fn modes args = r := by
  have h0 : (runF T L fn modes args).ok = true := by rw [h]; exact hok
  have h1 : (limF T fn modes args).ok = true := Classical.epsilon_spec (p := fun L => (runF T L fn modes args).ok = true) ⟨L, h0⟩
  unfold limF at h1 ⊢
  generalize (Classical.epsilon fun L => (runF T L fn modes args).ok = true) = M at h1 ⊢
  rw [← h]
  rcases Nat.le_total L M with hle | hle
  · exact runF_mono hle h0
  · exact (runF_mono hle h1).symm

/-- The callees of a function. -/
def look : List (Nat × Ctr) → Tbl
  | [], _ => none
  | p :: r, f => bif f == p.1 then some p.2 else look r f

theorem look_sound {P : Program} : ∀ {l : List (Nat × Ctr)}, (∀ p, p ∈ l → Sound P p.1 p.2) → TSound P (look l)
  | [], _, f, C, h => by simp [look] at h
  | p :: r, hl, f, C, h => by
    simp only [look, cond_eq_if, beq_iff_eq] at h
    split at h
    · rename_i e
      simp only [Option.some.injEq] at h
      subst h; subst e
      exact hl p (by simp)
    · exact look_sound (fun q hq => hl q (by simp [hq])) f C h

theorem snd_nil {P : Program} : ∀ p, p ∈ ([] : List (Nat × Ctr)) → Sound P p.1 p.2 := fun p h => by simp at h
theorem snd_cons {P : Program} {f : Nat} {C : Ctr} {l : List (Nat × Ctr)} (h : Sound P f C) (hl : ∀ p, p ∈ l → Sound P p.1 p.2) : ∀ p, p ∈ (f, C) :: l → Sound P p.1 p.2 := by
  intro p hp
  rcases List.mem_cons.1 hp with e | hp
  · subst e; exact h
  · exact hl p hp

def gate (q : Rs) : Rs := ⟨q.ok && flatA q.r, q.r, q.outs⟩

/-- The contract of a function; its result may share memory with its arguments. -/
noncomputable def mkN (l : List (Nat × Ctr)) (fn : AFn) (modes : List Md) : Ctr := ⟨modes, false, limF (look l) fn modes⟩
/-- The contract of a function whose results are scalars and that writes to no argument. -/
noncomputable def mkF (l : List (Nat × Ctr)) (fn : AFn) (modes : List Md) : Ctr := ⟨modes, true, fun args => gate (limF (look l) fn modes args)⟩

/-- The contract of a function that calls itself is a row of contracts, by the depth; at depth 0 nothing is known. -/
def badC (modes : List Md) : Ctr := ⟨modes, false, fun _ => Rs.bad⟩
theorem badC_sound {P : Program} {f : FuncId} {modes : List Md} : Sound P f (badC modes) := by
  unfold Sound
  exact ⟨fun e => Bool.noConfusion e, fun F g0 w args vargs hsh hsz hfr hok => by simp [badC, Rs.bad] at hok⟩

theorem mkN_F {l : List (Nat × Ctr)} {fn : AFn} {modes : List Md} {args : List AV} (L : Nat) {r : AV} {outs : List AV} (h : runF (look l) L fn modes args = ⟨true, r, outs⟩) : (mkN l fn modes).F args = ⟨true, r, outs⟩ := limF_eq h rfl
theorem mkF_F {l : List (Nat × Ctr)} {fn : AFn} {modes : List Md} {args : List AV} (L : Nat) {r : AV} {outs : List AV} (h : runF (look l) L fn modes args = ⟨true, r, outs⟩) (hf : flatA r = true) : (mkF l fn modes).F args = ⟨true, r, outs⟩ := by
  simp only [mkF, gate]; rw [limF_eq h rfl]; simp [hf]

theorem lim_sound {P : Program} {T : Tbl} {f : FuncId} {fn : AFn} {vm : List Nat} (hT : TSound P T) (hc : chkFn P f fn vm = true) (modes : List Md) : Sound P f ⟨modes, false, limF T fn modes⟩ := by
  unfold Sound
  refine ⟨fun e => Bool.noConfusion e, fun F g0 w args vargs hsh hsz hfr hok => ?_⟩
  exact (fn_sound hT hc (Classical.epsilon fun L => (runF T L fn modes args).ok = true) modes).2 F g0 w args vargs hsh hsz hfr hok

theorem mkN_sound {P : Program} {l : List (Nat × Ctr)} {f : FuncId} {fn : AFn} {vm : List Nat} (modes : List Md) (hl : ∀ p, p ∈ l → Sound P p.1 p.2) (hc : chkFn P f fn vm = true) : Sound P f (mkN l fn modes) := lim_sound (look_sound hl) hc modes

theorem mkF_sound {P : Program} {l : List (Nat × Ctr)} {f : FuncId} {fn : AFn} {vm : List Nat} (modes : List Md) (hm : noIo modes = true) (hl : ∀ p, p ∈ l → Sound P p.1 p.2) (hc : chkFn P f fn vm = true) : Sound P f (mkF l fn modes) := by
  have h := lim_sound (look_sound hl) hc modes
  unfold Sound at h ⊢
  refine ⟨fun _ => hm, fun F g0 w args vargs hsh hsz hfr hok => ?_⟩
  simp only [mkF, gate, Bool.and_eq_true] at hok ⊢
  exact ⟨fun _ => hok.2, (h.2 F g0 w args vargs hsh hsz hfr hok.1).2⟩

/-! ### Results that are never to be changed -/

/-- The contract of a function whose results may be old or new. -/
noncomputable def mkZ (l : List (Nat × Ctr)) (fn : AFn) (modes : List Md) : Ctr := ⟨modes, false, fun args => ⟨(limF (look l) fn modes args).ok, frzRs (limF (look l) fn modes args).r, (limF (look l) fn modes args).outs⟩⟩

theorem mkZ_E {l : List (Nat × Ctr)} {fn : AFn} {modes : List Md} {args : List AV} {r : AV} {outs : List AV} (h : ∃ L0, ∀ L, L0 ≤ L → frzQ (runF (look l) L fn modes args) = ⟨true, r, outs⟩) : (mkZ l fn modes).F args = ⟨true, r, outs⟩ := by
  obtain ⟨L, h⟩ := h
  have h := h L (Nat.le_refl _)
  have hok : (runF (look l) L fn modes args).ok = true := congrArg Rs.ok h
  simp only [mkZ]
  rw [limF_eq (r := runF (look l) L fn modes args) rfl hok]
  exact h

def obDels (p : Nat → Bool) : Obs → Obs
  | [] => []
  | q :: r => bif p q.1 then obDels p r else q :: obDels p r

theorem obGet_obDels (p : Nat → Bool) (k : Nat) : ∀ ob : Obs, obGet k (obDels p ob) = if p k = true then none else obGet k ob
  | [] => by simp [obDels, obGet]
  | q :: r => by
    have ih := obGet_obDels p k r
    by_cases hq : p q.1 = true
    · by_cases hk : p k = true
      · simp [obDels, cond_eq_if, hq, hk, ih]
      · have hne : q.1 ≠ k := fun e => hk (e ▸ hq)
        simp [obDels, obGet, cond_eq_if, hq, hk, ih, hne]
    · by_cases hk : p k = true
      · have hne : q.1 ≠ k := fun e => hq (e ▸ hk)
        simp [obDels, obGet, cond_eq_if, hq, hk, ih, hne]
      · simp [obDels, obGet, cond_eq_if, hq, hk, ih]

theorem frzR_isFr (a : AV) : isFr (frzR a) = false := by cases a <;> rfl

theorem frzRs_fpos {r : AV} {i : Nat} (h : fpos (frzRs r) i) : False := by
  cases r
  case tup cs =>
    obtain ⟨j, _, hj, hf⟩ := h
    have : (cs.map frzR).getD j .any = frzR (cs.getD j .any) := getD_map_any _ rfl _ _
    rw [this, frzR_isFr] at hf; cases hf
  all_goals
    simp only [frzRs, frzR, fpos, isFr] at h
    first | exact absurd h.2 Bool.false_ne_true | (simp at h)

open Classical in
theorem back_frz {F : Nat → Prop} {g0 g : Gh} {w w' : World} {args : List AV} {modes : List Md} {v : Value} {r : AV} {outs : List AV} {ob : Obs} {κ : Nat → Nat}
    (B : Back F g0 args modes w v w' r outs g ob κ) : Back F g0 args modes w v w' (frzRs r) outs g (obDels (fun k => decide (∃ i, fpos r i ∧ κ i = k)) ob) κ := by
  have hget : ∀ k, obGet k (obDels (fun k => decide (∃ i, fpos r i ∧ κ i = k)) ob) = if (∃ i, fpos r i ∧ κ i = k) then none else obGet k ob := by
    intro k; rw [obGet_obDels]; simp
  have hsub : ∀ k h, obGet k (obDels (fun k => decide (∃ i, fpos r i ∧ κ i = k)) ob) = some h → obGet k ob = some h ∧ ¬ ∃ i, fpos r i ∧ κ i = k := by
    intro k h hg
    rw [hget] at hg
    split at hg
    · cases hg
    · rename_i hn; exact ⟨hg, hn⟩
  have hin : ∀ k, inOb (obDels (fun k => decide (∃ i, fpos r i ∧ κ i = k)) ob) k → inOb ob k := fun k ⟨h, hg⟩ => ⟨h, (hsub k h hg).1⟩
  have hset : ∀ b, SetOf F g (obDels (fun k => decide (∃ i, fpos r i ∧ κ i = k)) ob) b → SetOf F g ob b := fun b hb => SetOf_sub hin hb
  have one : ∀ {i : Nat} {u : Value} {a : AV}, (isFr a = true → fpos r i) → RV1 (SetOf F g ob) w' g ob (κ i) u a → RV1 (SetOf F g (obDels (fun k => decide (∃ i, fpos r i ∧ κ i = k)) ob)) w' g (obDels (fun k => decide (∃ i, fpos r i ∧ κ i = k)) ob) (κ i) u (frzR a) := by
    intro i u a hf hu
    have blk : ∀ {sz : Nat} {els : List AV}, fpos r i → obGet (κ i) ob = some ⟨sz, els⟩ → VR (SetOf F g (obDels (fun k => decide (∃ i, fpos r i ∧ κ i = k)) ob)) w' (.slice (some ⟨g.β (κ i), 0, none⟩) els.length (g.cap (κ i))) (.sl sz els) ∧ (g.cap (κ i) = 0 → VR (SetOf F g (obDels (fun k => decide (∃ i, fpos r i ∧ κ i = k)) ob)) w' (.slice none 0 0) (.sl sz els)) ∧ ∀ i0 off, i0 < els.length → VR (SetOf F g (obDels (fun k => decide (∃ i, fpos r i ∧ κ i = k)) ob)) w' (.pointer (some ⟨g.β (κ i), i0 * sz + off, none⟩)) (.ptr sz els i0 off) := fun {sz els} hfi hg => by
      have hH := B.home (κ i) ⟨sz, els⟩ hg
      obtain ⟨rr, hcell⟩ := hH.cell
      exact hH.sl (S' := SetOf F g (obDels (fun k => decide (∃ i, fpos r i ∧ κ i = k)) ob)) hcell hset fun hp c => by
        have hl : liv g ob (κ i) := ⟨⟨_, hg⟩, hp⟩
        rcases c with c | ⟨k, hk, e⟩
        · exact B.nF _ hl c
        · obtain ⟨⟨h', hg'⟩, hp'⟩ := hk
          obtain ⟨h1, h2⟩ := hsub k h' hg'
          have := B.inj k (κ i) ⟨⟨h', h1⟩, hp'⟩ hl e
          exact h2 ⟨i, hfi, this.symm⟩
    cases a
    case fresh sz els =>
      obtain ⟨q1, q2, _⟩ := blk (hf rfl) hu.1
      show VR _ _ _ _
      rcases hu.2 with e | ⟨e0, e⟩
      · rw [e]; exact q1
      · rw [e]; exact q2 e0
    case mem sz els ix =>
      obtain ⟨_, _, q3⟩ := blk (hf rfl) hu.1
      obtain ⟨_, hl1, e⟩ := hu
      have := q3 0 0 (by omega)
      rw [Nat.zero_mul, Nat.zero_add] at this
      rw [e]; exact this
    all_goals exact VR.mono (Same.refl _ _) (fun b _ c => hset b c) hu
  refine ⟨B.same, fun k h hg => (B.home k h (hsub k h hg).1).mono (Same.refl _ _) (fun _ => rfl) fun b _ c => hset b c, fun k k' a b => B.inj k k' ⟨hin k a.1, a.2⟩ ⟨hin k' b.1, b.2⟩, fun k a => B.nF k ⟨hin k a.1, a.2⟩, fun k a => B.hio k ⟨hin k a.1, a.2⟩, ?_,
    fun i j hi _ _ => (frzRs_fpos hi).elim, fun i j hi _ _ => (frzRs_fpos hi).elim, fun j hj => ?_⟩
  · have hval := B.val
    cases r
    case tup cs =>
      obtain ⟨vs, rfl, hn, hall⟩ := hval
      refine ⟨vs, rfl, by simpa using hn, fun j hj => ?_⟩
      have hj' : j < cs.length := by simpa using hj
      have e : (cs.map frzR).getD j .any = frzR (cs.getD j .any) := getD_map_any _ rfl _ _
      rw [e]
      exact one (fun hf => ⟨j, rfl, hj', hf⟩) (hall j hj')
    all_goals exact one (fun hf => ⟨rfl, hf⟩) hval
  · obtain ⟨sz, e0, els, h1, h2, h3, h4⟩ := B.out j hj
    refine ⟨sz, e0, els, h1, h2, ?_, h4⟩
    rw [hget, if_neg]
    · exact h3
    · rintro ⟨i, hi, e⟩; exact B.κio i j hi hj e

theorem mkZ_sound {P : Program} {l : List (Nat × Ctr)} {f : FuncId} {fn : AFn} {vm : List Nat} (modes : List Md) (hl : ∀ p, p ∈ l → Sound P p.1 p.2) (hc : chkFn P f fn vm = true) : Sound P f (mkZ l fn modes) := by
  have h := lim_sound (look_sound hl) hc modes
  unfold Sound at h ⊢
  refine ⟨fun e => Bool.noConfusion e, fun F g0 w args vargs hsh hsz hfr hok => ?_⟩
  simp only [mkZ] at hok ⊢
  refine ⟨fun e => Bool.noConfusion e, ((h.2 F g0 w args vargs hsh hsz hfr hok).2).mono fun e w' he => ?_⟩
  obtain ⟨v, g, ob, κ, he, B⟩ := he
  exact ⟨v, g, _, κ, he, back_frz B⟩

/-! ### A law's call -/

theorem law_callB {b : Bool} {P : Program} {f : FuncId} {C : Ctr} {fu : Func} {c : Code} (hC : Sound P f C) (hf : P.funcs[f]? = some fu) (hb : fu.body = some c) (hn : (fu.name == "runtime.NumGoroutine") = false)
    {args : List AV} {vargs : Array Value} {w : World} (hsz : vargs.size = args.length) (hsh : shapes C.modes args = true) (hbor : args.all (fun a => !isFM a) = true) (hv : ∀ j, j < args.length → VR (fun _ => False) w (vargs.getD j undef) (args.getD j .any)) (hgt : GT (fun _ => False) w) {outs : List AV}
    (hF : C.F args = ⟨true, .bool b, outs⟩) : Calls P f vargs w fun e w' => e = .returned (.bool b) ∧ Same (fun _ => False) w w' := by
  have hnofm : ∀ j, isFM (args.getD j .any) = false := by
    intro j
    simp only [List.all_eq_true, Bool.not_eq_true'] at hbor
    rw [List.getD_eq_getElem?_getD]
    cases hj : args[j]? with
    | none => rfl
    | some a => exact hbor a (List.mem_of_getElem? hj)
  have hob : ∀ k, obGet k (initOb 0 args) = none := by
    intro k
    cases hg : obGet k (initOb 0 args) with
    | none => rfl
    | some hm =>
      obtain ⟨j, _, hf⟩ := initOb_key hg
      have := hnofm j
      revert hf this
      generalize args.getD j .any = x
      intro hf this
      cases x <;> simp [fmHm, isFM] at hf this
  have hno : ∀ k, ¬ inOb (initOb 0 args) k := fun k ⟨hm, hg⟩ => by rw [hob k] at hg; cases hg
  have hfr : FR (fun _ => False) ⟨fun _ => 0, fun _ => 0⟩ w vargs (List.range args.length) [] (argSt args) := by
    refine ⟨fun k hm hg => (hno k ⟨hm, hg⟩).elim, fun k _ hk => (hno k hk.1).elim, fun k hk => (hno k hk.1).elim, fun b hb => hb.elim, by simp [argSt, initTm_len], rfl, fun j hj => ?_, fun j hj => by simp at hj, fun t ht => ?_, hgt.mono (Same.refl _ _) fun b _ hb => ?_⟩
    · have hj' : j < args.length := by simpa using hj
      have e1 : (List.range args.length).getD j 0 = j := by rw [List.getD_eq_getElem?_getD, List.getElem?_range hj']; rfl
      rw [e1]
      simp only [argSt]
      rw [initTm_get _ 0 j hj', Nat.zero_add]
      have e2 : initA j (args.getD j .any) = args.getD j .any := by
        have := hnofm j
        revert this
        generalize args.getD j .any = x
        intro this
        cases x <;> first | rfl | (simp [isFM] at this)
      rw [e2]
      refine ((hv j hj').mono (Same.refl _ _) fun b _ hb => ?_).toSR
      rcases hb with hb | ⟨k, hk, _⟩
      · exact hb
      · exact hno k hk.1
    · rcases ht with ht | ht
      · rw [hsz]; simpa using ht
      · simp at ht
    · rcases hb with hb | ⟨k, hk, _⟩
      · exact hb
      · exact hno k hk.1
  have h := (hC.2 _ _ w args vargs hsh hsz hfr (by rw [hF])).2
  rw [hF] at h
  unfold Invokes at h
  rw [run_callFunc hf hb hn] at h
  refine Calls.mono h fun e w' he => ?_
  obtain ⟨v, g, ob, κ, rfl, B⟩ := he
  have hval := B.val
  simp only [RV, RV1] at hval
  refine ⟨?_, B.same.mono fun b _ ⟨k, hk, _⟩ => (hno k hk.1).elim⟩
  cases hval
  rfl

theorem law_call {P : Program} {f : FuncId} {C : Ctr} {fu : Func} {c : Code} (hC : Sound P f C) (hf : P.funcs[f]? = some fu) (hb : fu.body = some c) (hn : (fu.name == "runtime.NumGoroutine") = false)
    {args : List AV} {vargs : Array Value} {w : World} (hsz : vargs.size = args.length) (hsh : shapes C.modes args = true) (hbor : args.all (fun a => !isFM a) = true) (hv : ∀ j, j < args.length → VR (fun _ => False) w (vargs.getD j undef) (args.getD j .any)) (hgt : GT (fun _ => False) w) {outs : List AV}
    (hF : C.F args = ⟨true, .bool true, outs⟩) : Calls P f vargs w fun e w' => e = .returned (.bool true) ∧ Same (fun _ => False) w w' :=
  law_callB hC hf hb hn hsz hsh hbor hv hgt hF

end Go.Proofs.YtbobhejdijcofaaGreatDoor
