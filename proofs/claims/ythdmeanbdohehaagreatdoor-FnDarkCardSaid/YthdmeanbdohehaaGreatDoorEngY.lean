/- Contracts: a function's small form, run as long as is needed. No condition. -/
import Derived.Test.YthdmeanbdohehaaGreatDoorEngX
namespace Go.Proofs.YthdmeanbdohehaaGreatDoor
open Go Go.RowKit
set_option linter.unusedSimpArgs false
set_option linter.unusedVariables false
theorem VV {f f' : St → FT} {keep ot rt : List Bool} (hf : ∀ s, (f s).2.ok = true → f' s = f s) (hfm : ∀ s, (f s).2.ok = true → s.ok = true) : ∀ n m s, n ≤ m → (Cg f keep ot rt n s).2.ok = true → Cg f' keep ot rt m s = Cg f keep ot rt n s
 | 0, _, s, _, h => by simp [Cg, Ct] at h
 | n + 1, 0, s, hm, _ => by omega
 | n + 1, m + 1, s, hm, h => by
  simp only [Cg] at h ⊢
  have hok : (f s).2.ok = true := by
   revert h
   generalize f s = r
   intro h
   obtain ⟨e, s'⟩ := r
   cases e
   ·simp only [GL, GI] at h; have h3 := Np hfm n _ h; rwa [Fk] at h3
   ·simpa only [GL, GI, Fk] using h
   ·simpa only [GL, GI, Fk] using h
  rw [hf s hok]
  revert h
  generalize f s = r
  intro h
  obtain ⟨e, s'⟩ := r
  cases e
  ·simp only [GL, GI] at h ⊢; exact VV hf hfm n m _ (by omega) h
  ·rfl
  ·rfl
theorem EW {T : GW} {L M : Nat} (hLM : L ≤ M) : ∀ (ir : IR) {s : St}, (BD T L ir s).2.ok = true → BD T M ir s = BD T L ir s
 | .skip, _, _ => rfl
 | .region _ is, s, _ => rfl
 | .test _ is c a b, s, h => by
  simp only [BD, Mq] at h ⊢
  cases hv : rd (EF T is s) c <;> rw [hv] at h <;> simp only [Ic, Ct] at h ⊢
  split at h
  ·rename_i hb; rw [if_pos hb, if_pos hb]; exact EW hLM a h
  ·rename_i hb; rw [if_neg hb, if_neg hb]; exact EW hLM b h
 | .anyo k is alts .skip, s, h => rfl
 | .anyo k is alts (.cond c a b), s, h => by
  simp only [BD, Mq] at h ⊢
  cases hv : rd (Ob T k is alts s) c <;> rw [hv] at h <;> simp only [Ic, Ct] at h ⊢
  split at h
  ·rename_i hb; rw [if_pos hb, if_pos hb]; exact EW hLM a h
  ·rename_i hb; rw [if_neg hb, if_neg hb]; exact EW hLM b h
 | .anyo k is alts (.region _ _), s, h => rfl
 | .anyo k is alts (.test _ _ _ _ _), s, h => rfl
 | .anyo k is alts (.anyo _ _ _ _), s, h => rfl
 | .anyo k is alts (.seq _ _), s, h => rfl
 | .anyo k is alts (.block _ _), s, h => rfl
 | .anyo k is alts (.loop _ _ _ _), s, h => rfl
 | .anyo k is alts (.mask _ _), s, h => rfl
 | .anyo k is alts (.exit _), s, h => rfl
 | .anyo k is alts .ret, s, h => rfl
 | .seq a b, s, h => by
  simp only [BD] at h ⊢
  have hok : (BD T L a s).2.ok = true := by
   revert h
   generalize BD T L a s = r
   intro h
   obtain ⟨e, s'⟩ := r
   cases e
   ·have h3 := DD b h; exact h3
   ·exact h
   ·exact h
  rw [EW hLM a hok]
  revert h
  generalize BD T L a s = r
  intro h
  obtain ⟨e, s'⟩ := r
  cases e
  ·exact EW hLM b h
  ·rfl
  ·rfl
 | .cond c a b, s, h => by
  simp only [BD] at h ⊢
  cases hv : rd s c <;> rw [hv] at h <;> simp only [Ic, Ct] at h ⊢
  split at h
  ·rename_i hb; rw [if_pos hb, if_pos hb]; exact EW hLM a h
  ·rename_i hb; rw [if_neg hb, if_neg hb]; exact EW hLM b h
 | .block id a, s, h => by
  simp only [BD] at h ⊢
  have hok : (BD T L a s).2.ok = true := by
   revert h
   generalize BD T L a s = r
   intro h
   obtain ⟨e, s'⟩ := r
   cases e
   ·exact h
   ·simp only [Kx] at h; rw [AM] at h; split at h <;> exact h
   ·exact h
  rw [EW hLM a hok]
 | .loop keep out rt a, s, h => by
  simp only [BD] at h ⊢
  exact VV (f := BD T L a) (f' := BD T M a) (fun s hs => EW hLM a hs) (fun s hs => DD a hs) L M (keepS keep s) hLM h
 | .mask m a, s, h => by
  simp only [BD] at h ⊢
  rw [EW hLM a (PJ h)]
 | .exit _, _, _ => rfl
 | .ret, _, _ => rfl
theorem dY {fn : EL} {modes : List Md} {args : List AV} {r : FT} (h : (Gz fn modes args r).ok = true) : r.2.ok = true := by
 obtain ⟨e, s⟩ := r
 cases e <;> simp only [Gz, UI, Rs.bad, Bool.and_eq_true] at h
 ·exact h.1
 ·cases h
 ·exact h.1
theorem VG {T : GW} {L M : Nat} (hLM : L ≤ M) {fn : EL} {modes : List Md} {args : List AV} (h : (Iy T L fn modes args).ok = true) : Iy T M fn modes args = Iy T L fn modes args := by
 simp only [Iy, ZD, Bool.and_eq_true] at h ⊢
 rw [EW hLM fn.body (dY h.2)]
noncomputable def WS (T : GW) (fn : EL) (modes : List Md) (args : List AV) : Rs :=
 Iy T (Classical.epsilon fun L => (Iy T L fn modes args).ok = true) fn modes args
theorem WR {T : GW} {L : Nat} {fn : EL} {modes : List Md} {args : List AV} {r : Rs} (h : Iy T L fn modes args = r) (hok : r.ok = true) : WS T fn modes args = r := by
 have h0 : (Iy T L fn modes args).ok = true := by rw [h]; exact hok
 have h1 : (WS T fn modes args).ok = true := Classical.epsilon_spec (p := fun L => (Iy T L fn modes args).ok = true) ⟨L, h0⟩
 unfold WS at h1 ⊢
 generalize (Classical.epsilon fun L => (Iy T L fn modes args).ok = true) = M at h1 ⊢
 rw [← h]
 rcases Nat.le_total L M with hle | hle
 ·exact VG hle h0
 ·exact (VG hle h1).symm
def Aa : List (Nat × Bf) → GW
 | [], _ => none
 | p :: r, f => bif f == p.1 then some p.2 else Aa r f
theorem Jz {P : Program} : ∀ {l : List (Nat × Bf)}, (∀ p, p ∈ l → Ad P p.1 p.2) → HT P (Aa l)
 | [], _, f, C, h => by simp [Aa] at h
 | p :: r, hl, f, C, h => by
  simp only [Aa, AM, beq_iff_eq] at h
  split at h
  ·rename_i e
   simp only [Option.some.injEq] at h
   subst h; subst e
   exact hl p (by simp)
  ·exact Jz (fun q hq => hl q (by simp [hq])) f C h
theorem Ab {P : Program} : ∀ p, p ∈ ([] : List (Nat × Bf)) → Ad P p.1 p.2 := fun p h => by simp at h
theorem AI {P : Program} {f : Nat} {C : Bf} {l : List (Nat × Bf)} (h : Ad P f C) (hl : ∀ p, p ∈ l → Ad P p.1 p.2) : ∀ p, p ∈ (f, C) :: l → Ad P p.1 p.2 := by
 intro p hp
 rcases List.mem_cons.1 hp with e | hp
 ·subst e; exact h
 ·exact hl p hp
def rp (q : Rs) : Rs := ⟨q.ok && EA q.r, q.r, q.outs⟩
noncomputable def VP (l : List (Nat × Bf)) (fn : EL) (modes : List Md) : Bf := ⟨modes, false, WS (Aa l) fn modes⟩
noncomputable def Gd (l : List (Nat × Bf)) (fn : EL) (modes : List Md) : Bf := ⟨modes, true, fun args => rp (WS (Aa l) fn modes args)⟩
def sN (modes : List Md) : Bf := ⟨modes, false, fun _ => Rs.bad⟩
theorem ag {P : Program} {f : FuncId} {modes : List Md} : Ad P f (sN modes) := by
 unfold Ad
 exact ⟨fun e => Bool.noConfusion e, fun F g0 w args vargs hsh hsz hfr hok => by simp [sN, Rs.bad] at hok⟩
theorem uI {l : List (Nat × Bf)} {fn : EL} {modes : List Md} {args : List AV} (L : Nat) {r : AV} {outs : List AV} (h : Iy (Aa l) L fn modes args = ⟨true, r, outs⟩) : (VP l fn modes).F args = ⟨true, r, outs⟩ := WR h rfl
theorem uJ {l : List (Nat × Bf)} {fn : EL} {modes : List Md} {args : List AV} (L : Nat) {r : AV} {outs : List AV} (h : Iy (Aa l) L fn modes args = ⟨true, r, outs⟩) (hf : EA r = true) : (Gd l fn modes).F args = ⟨true, r, outs⟩ := by
 simp only [Gd, rp]; rw [WR h rfl]; simp [hf]
theorem PT {P : Program} {T : GW} {f : FuncId} {fn : EL} {vm : List Nat} (hT : HT P T) (hc : BF P f fn vm = true) (modes : List Md) : Ad P f ⟨modes, false, WS T fn modes⟩ := by
 unfold Ad
 refine ⟨fun e => Bool.noConfusion e, fun F g0 w args vargs hsh hsz hfr hok => ?_⟩
 exact (kO hT hc (Classical.epsilon fun L => (Iy T L fn modes args).ok = true) modes).2 F g0 w args vargs hsh hsz hfr hok
theorem DF {P : Program} {l : List (Nat × Bf)} {f : FuncId} {fn : EL} {vm : List Nat} (modes : List Md) (hl : ∀ p, p ∈ l → Ad P p.1 p.2) (hc : BF P f fn vm = true) : Ad P f (VP l fn modes) := PT (Jz hl) hc modes
theorem AY {P : Program} {l : List (Nat × Bf)} {f : FuncId} {fn : EL} {vm : List Nat} (modes : List Md) (hm : mO modes = true) (hl : ∀ p, p ∈ l → Ad P p.1 p.2) (hc : BF P f fn vm = true) : Ad P f (Gd l fn modes) := by
 have h := PT (Jz hl) hc modes
 unfold Ad at h ⊢
 refine ⟨fun _ => hm, fun F g0 w args vargs hsh hsz hfr hok => ?_⟩
 simp only [Gd, rp, Bool.and_eq_true] at hok ⊢
 exact ⟨fun _ => hok.2, (h.2 F g0 w args vargs hsh hsz hfr hok.1).2⟩
noncomputable def sj (l : List (Nat × Bf)) (fn : EL) (modes : List Md) : Bf := ⟨modes, false, fun args => ⟨(WS (Aa l) fn modes args).ok, UF (WS (Aa l) fn modes args).r, (WS (Aa l) fn modes args).outs⟩⟩
theorem oG {l : List (Nat × Bf)} {fn : EL} {modes : List Md} {args : List AV} {r : AV} {outs : List AV} (h : ∃ L0, ∀ L, L0 ≤ L → uZ (Iy (Aa l) L fn modes args) = ⟨true, r, outs⟩) : (sj l fn modes).F args = ⟨true, r, outs⟩ := by
 obtain ⟨L, h⟩ := h
 have h := h L (Nat.le_refl _)
 have hok : (Iy (Aa l) L fn modes args).ok = true := congrArg Rs.ok h
 simp only [sj]
 rw [WR (r := Iy (Aa l) L fn modes args) rfl hok]
 exact h
def FC (p : Nat → Bool) : CC → CC
 | [] => []
 | q :: r => bif p q.1 then FC p r else q :: FC p r
theorem NK (p : Nat → Bool) (k : Nat) : ∀ ob : CC, AL k (FC p ob) = if p k = true then none else AL k ob
 | [] => by simp [FC, AL]
 | q :: r => by
  have ih := NK p k r
  by_cases hq : p q.1 = true
  ·by_cases hk : p k = true
   ·simp [FC, AM, hq, hk, ih]
   ·have hne : q.1 ≠ k := fun e => hk (e ▸ hq)
    simp [FC, AL, AM, hq, hk, ih, hne]
  ·by_cases hk : p k = true
   ·have hne : q.1 ≠ k := fun e => hq (e ▸ hk)
    simp [FC, AL, AM, hq, hk, ih, hne]
   ·simp [FC, AL, AM, hq, hk, ih]
theorem dV (a : AV) : GB (QM a) = false := by cases a <;> rfl
theorem UE {r : AV} {i : Nat} (h : GE (UF r) i) : False := by
 cases r
 case tup cs =>
  obtain ⟨j, _, hj, hf⟩ := h
  have : (cs.map QM).getD j .any = QM (cs.getD j .any) := Bi _ rfl _ _
  rw [this, dV] at hf; cases hf
 all_goals
  simp only [UF, QM, GE, GB] at h
  first | exact absurd h.2 Bool.false_ne_true | (simp at h)
open Classical in
theorem lE {F : Nat → Prop} {g0 g : Gh} {w w' : World} {args : List AV} {modes : List Md} {v : Value} {r : AV} {outs : List AV} {ob : CC} {κ : Nat → Nat}
  (B : ZW F g0 args modes w v w' r outs g ob κ) : ZW F g0 args modes w v w' (UF r) outs g (FC (fun k => decide (∃ i, GE r i ∧ κ i = k)) ob) κ := by
 have hget : ∀ k, AL k (FC (fun k => decide (∃ i, GE r i ∧ κ i = k)) ob) = if (∃ i, GE r i ∧ κ i = k) then none else AL k ob := by
  intro k; rw [NK]; simp
 have hsub : ∀ k h, AL k (FC (fun k => decide (∃ i, GE r i ∧ κ i = k)) ob) = some h → AL k ob = some h ∧ ¬ ∃ i, GE r i ∧ κ i = k := by
  intro k h hg
  rw [hget] at hg
  split at hg
  ·cases hg
  ·rename_i hn; exact ⟨hg, hn⟩
 have hin : ∀ k, Gj (FC (fun k => decide (∃ i, GE r i ∧ κ i = k)) ob) k → Gj ob k := fun k ⟨h, hg⟩ => ⟨h, (hsub k h hg).1⟩
 have hset : ∀ b, AW F g (FC (fun k => decide (∃ i, GE r i ∧ κ i = k)) ob) b → AW F g ob b := fun b hb => Et hin hb
 have one : ∀ {i : Nat} {u : Value} {a : AV}, (GB a = true → GE r i) → lK (AW F g ob) w' g ob (κ i) u a → lK (AW F g (FC (fun k => decide (∃ i, GE r i ∧ κ i = k)) ob)) w' g (FC (fun k => decide (∃ i, GE r i ∧ κ i = k)) ob) (κ i) u (QM a) := by
  intro i u a hf hu
  have blk : ∀ {sz : Nat} {els : List AV}, GE r i → AL (κ i) ob = some ⟨sz, els⟩ → VR (AW F g (FC (fun k => decide (∃ i, GE r i ∧ κ i = k)) ob)) w' (.slice (some ⟨g.β (κ i), 0, none⟩) els.length (g.cap (κ i))) (.sl sz els) ∧ (g.cap (κ i) = 0 → VR (AW F g (FC (fun k => decide (∃ i, GE r i ∧ κ i = k)) ob)) w' (.slice none 0 0) (.sl sz els)) ∧ ∀ i0 off, i0 < els.length → VR (AW F g (FC (fun k => decide (∃ i, GE r i ∧ κ i = k)) ob)) w' (.pointer (some ⟨g.β (κ i), i0 * sz + off, none⟩)) (.ptr sz els i0 off) := fun {sz els} hfi hg => by
   have hH := B.home (κ i) ⟨sz, els⟩ hg
   obtain ⟨rr, hcell⟩ := hH.cell
   exact hH.sl (S' := AW F g (FC (fun k => decide (∃ i, GE r i ∧ κ i = k)) ob)) hcell hset fun hp c => by
    have hl : Jm g ob (κ i) := ⟨⟨_, hg⟩, hp⟩
    rcases c with c | ⟨k, hk, e⟩
    ·exact B.nF _ hl c
    ·obtain ⟨⟨h', hg'⟩, hp'⟩ := hk
     obtain ⟨h1, h2⟩ := hsub k h' hg'
     have := B.inj k (κ i) ⟨⟨h', h1⟩, hp'⟩ hl e
     exact h2 ⟨i, hfi, this.symm⟩
  cases a
  case fresh sz els =>
   obtain ⟨q1, q2, _⟩ := blk (hf rfl) hu.1
   show VR _ _ _ _
   rcases hu.2 with e | ⟨e0, e⟩
   ·rw [e]; exact q1
   ·rw [e]; exact q2 e0
  case mem sz els ix =>
   obtain ⟨_, _, q3⟩ := blk (hf rfl) hu.1
   obtain ⟨_, hl1, e⟩ := hu
   have := q3 0 0 (by omega)
   rw [Nat.zero_mul, Nat.zero_add] at this
   rw [e]; exact this
  all_goals exact VR.mono (Aj.refl _ _) (fun b _ c => hset b c) hu
 refine ⟨B.same, fun k h hg => (B.home k h (hsub k h hg).1).mono (Aj.refl _ _) (fun _ => rfl) fun b _ c => hset b c, fun k k' a b => B.inj k k' ⟨hin k a.1, a.2⟩ ⟨hin k' b.1, b.2⟩, fun k a => B.nF k ⟨hin k a.1, a.2⟩, fun k a => B.hio k ⟨hin k a.1, a.2⟩, ?_,
  fun i j hi _ _ => (UE hi).elim, fun i j hi _ _ => (UE hi).elim, fun j hj => ?_⟩
 ·have hval := B.val
  cases r
  case tup cs =>
   obtain ⟨vs, rfl, hn, hall⟩ := hval
   refine ⟨vs, rfl, by simpa using hn, fun j hj => ?_⟩
   have hj' : j < cs.length := by simpa using hj
   have e : (cs.map QM).getD j .any = QM (cs.getD j .any) := Bi _ rfl _ _
   rw [e]
   exact one (fun hf => ⟨j, rfl, hj', hf⟩) (hall j hj')
  all_goals exact one (fun hf => ⟨rfl, hf⟩) hval
 ·obtain ⟨sz, e0, els, h1, h2, h3, h4⟩ := B.out j hj
  refine ⟨sz, e0, els, h1, h2, ?_, h4⟩
  rw [hget, if_neg]
  ·exact h3
  ·rintro ⟨i, hi, e⟩; exact B.κio i j hi hj e
theorem VN {P : Program} {l : List (Nat × Bf)} {f : FuncId} {fn : EL} {vm : List Nat} (modes : List Md) (hl : ∀ p, p ∈ l → Ad P p.1 p.2) (hc : BF P f fn vm = true) : Ad P f (sj l fn modes) := by
 have h := PT (Jz hl) hc modes
 unfold Ad at h ⊢
 refine ⟨fun e => Bool.noConfusion e, fun F g0 w args vargs hsh hsz hfr hok => ?_⟩
 simp only [sj] at hok ⊢
 refine ⟨fun e => Bool.noConfusion e, ((h.2 F g0 w args vargs hsh hsz hfr hok).2).mono fun e w' he => ?_⟩
 obtain ⟨v, g, ob, κ, he, B⟩ := he
 exact ⟨v, g, _, κ, he, lE B⟩
theorem dD {b : Bool} {P : Program} {f : FuncId} {C : Bf} {fu : Func} {c : Code} (hC : Ad P f C) (hf : P.funcs[f]? = some fu) (hb : fu.body = some c) (hn : (fu.name == "runtime.NumGoroutine") = false)
  {args : List AV} {vargs : Array Value} {w : World} (hsz : vargs.size = args.length) (hsh : EC C.modes args = true) (hbor : args.all (fun a => !Fg a) = true) (hv : ∀ j, j < args.length → VR (fun _ => False) w (vargs.getD j undef) (args.getD j .any)) (hgt : GT (fun _ => False) w) {outs : List AV}
  (hF : C.F args = ⟨true, .bool b, outs⟩) : Calls P f vargs w fun e w' => e = .returned (.bool b) ∧ Aj (fun _ => False) w w' := by
 have hnofm : ∀ j, Fg (args.getD j .any) = false := by
  intro j
  simp only [List.all_eq_true, Bool.not_eq_true'] at hbor
  rw [List.getD_eq_getElem?_getD]
  cases hj : args[j]? with
  | none => rfl
  | some a => exact hbor a (List.mem_of_getElem? hj)
 have hob : ∀ k, AL k (CV 0 args) = none := by
  intro k
  cases hg : AL k (CV 0 args) with
  | none => rfl
  | some hm =>
   obtain ⟨j, _, hf⟩ := MY hg
   have := hnofm j
   revert hf this
   generalize args.getD j .any = x
   intro hf this
   cases x <;> simp [FG, Fg] at hf this
 have hno : ∀ k, ¬ Gj (CV 0 args) k := fun k ⟨hm, hg⟩ => by rw [hob k] at hg; cases hg
 have hfr : FR (fun _ => False) ⟨fun _ => 0, fun _ => 0⟩ w vargs (List.range args.length) [] (OZ args) := by
  refine ⟨fun k hm hg => (hno k ⟨hm, hg⟩).elim, fun k _ hk => (hno k hk.1).elim, fun k hk => (hno k hk.1).elim, fun b hb => hb.elim, by simp [OZ, IZ], rfl, fun j hj => ?_, fun j hj => by simp at hj, fun t ht => ?_, hgt.mono (Aj.refl _ _) fun b _ hb => ?_⟩
  ·have hj' : j < args.length := by simpa using hj
   have e1 : (List.range args.length).getD j 0 = j := by rw [List.getD_eq_getElem?_getD, List.getElem?_range hj']; rfl
   rw [e1]
   simp only [OZ]
   rw [KD _ 0 j hj', Nat.zero_add]
   have e2 : Yh j (args.getD j .any) = args.getD j .any := by
    have := hnofm j
    revert this
    generalize args.getD j .any = x
    intro this
    cases x <;> first | rfl | (simp [Fg] at this)
   rw [e2]
   refine ((hv j hj').mono (Aj.refl _ _) fun b _ hb => ?_).toSR
   rcases hb with hb | ⟨k, hk, _⟩
   ·exact hb
   ·exact hno k hk.1
  ·rcases ht with ht | ht
   ·rw [hsz]; simpa using ht
   ·simp at ht
  ·rcases hb with hb | ⟨k, hk, _⟩
   ·exact hb
   ·exact hno k hk.1
 have h := (hC.2 _ _ w args vargs hsh hsz hfr (by rw [hF])).2
 rw [hF] at h
 unfold DM at h
 rw [NA hf hb hn] at h
 refine Calls.mono h fun e w' he => ?_
 obtain ⟨v, g, ob, κ, rfl, B⟩ := he
 have hval := B.val
 simp only [RV, lK] at hval
 refine ⟨?_, B.same.mono fun b _ ⟨k, hk, _⟩ => (hno k hk.1).elim⟩
 cases hval
 rfl
theorem jn {P : Program} {f : FuncId} {C : Bf} {fu : Func} {c : Code} (hC : Ad P f C) (hf : P.funcs[f]? = some fu) (hb : fu.body = some c) (hn : (fu.name == "runtime.NumGoroutine") = false)
  {args : List AV} {vargs : Array Value} {w : World} (hsz : vargs.size = args.length) (hsh : EC C.modes args = true) (hbor : args.all (fun a => !Fg a) = true) (hv : ∀ j, j < args.length → VR (fun _ => False) w (vargs.getD j undef) (args.getD j .any)) (hgt : GT (fun _ => False) w) {outs : List AV}
  (hF : C.F args = ⟨true, .bool true, outs⟩) : Calls P f vargs w fun e w' => e = .returned (.bool true) ∧ Aj (fun _ => False) w w' :=
 dD hC hf hb hn hsz hsh hbor hv hgt hF
end Go.Proofs.YthdmeanbdohehaaGreatDoor
