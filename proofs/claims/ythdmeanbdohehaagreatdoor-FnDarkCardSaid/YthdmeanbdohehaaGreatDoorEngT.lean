/- One instruction. No condition. -/
import Derived.Test.YthdmeanbdohehaaGreatDoorEngS
namespace Go.Proofs.YthdmeanbdohehaaGreatDoor
open Go Go.RowKit
set_option linter.unusedSimpArgs false
set_option linter.unusedVariables false
theorem aI {s : St} {k : Nat} {h : Option Hm} : (freezeH s k h).ok = s.ok := by cases h <;> rfl
theorem Ed : ∀ (ks : List Nat) (s : St), (freezeAll s ks).ok = s.ok
 | [], _ => rfl
 | k :: r, s => by simp only [freezeAll]; rw [Ed r, aI]
theorem cP {s : St} {sz : Nat} {x p : AV} (h : (Gl s sz x p).ok = true) : s.ok = true := by
 cases p <;> simp only [Gl, Ct] at h <;> try (cases h; done)
 rename_i k i off
 cases ho : AL k s.ob with
 | none => rw [ho] at h; simp [ME, Ct] at h
 | some hm =>
  rw [ho] at h
  simp only [ME, Ms, Bool.and_eq_true] at h
  exact h.1
theorem nk {s : St} {key : Nat} {D : Fh} {sz bytes : Nat} {y : Ap} {a : AV} (h : (Mi s key D sz bytes y a).ok = true) : s.ok = true := by
 cases a <;> simp only [Mi, Ct] at h <;> try (cases h; done)
 case nilsl => exact (Ej h).1
 case own k =>
  cases ho : AL k s.ob with
  | none => rw [ho] at h; simp [Pl, Ct] at h
  | some hm => rw [ho] at h; exact (NF h).1
theorem cC {s : St} {D : Fh} {sz : Nat} {n : Int} {a : AV} (h : (Gk s D sz n a).ok = true) : s.ok = true := by
 cases a <;> simp only [Gk, Ct] at h <;> try (cases h; done)
 rename_i k
 cases ho : AL k s.ob with
 | none => rw [ho] at h; simp [Ox, Ct] at h
 | some hm => rw [ho] at h; exact (NF h).1
theorem Fw : ∀ (ms : List Md) (as os : List AV) (s : St), (Ac s ms as os).ok = true → s.ok = true
 | [], [], [], s, h => h
 | [], [], q :: os, s, h => by simp [Ac, Ct] at h
 | [], a :: as, os, s, h => by simp [Ac, Ct] at h
 | m :: ms, [], os, s, h => by cases m <;> simp [Ac, Ct] at h
 | m :: ms, a :: as, [], s, h => by cases m <;> cases a <;> simp [Ac, Ct] at h
 | .bor :: ms, a :: as, q :: os, s, h => Fw ms as os s h
 | .io :: ms, a :: as, q :: os, s, h => by
  unfold Ac at h
  split at h
  ·simp_all
  ·rename_i e1 e2 e3; simp only [List.cons.injEq] at e1 e2 e3; obtain ⟨_, rfl⟩ := e1; obtain ⟨_, rfl⟩ := e2; obtain ⟨_, rfl⟩ := e3; have := Fw _ _ _ _ h; exact this
  ·rename_i e1 e2 e3; simp only [List.cons.injEq] at e1 e2 e3; obtain ⟨_, rfl⟩ := e1; obtain ⟨_, rfl⟩ := e2; obtain ⟨_, rfl⟩ := e3; have := Fw _ _ _ _ h; exact this
  ·simp_all
  ·simp_all
  ·simp_all
  ·simp [Ct] at h
 | .mov :: ms, a :: as, q :: os, s, h => by
  cases a <;> simp only [Ac, Ct] at h <;> try (cases h; done)
  ·have := Fw _ _ _ _ h; exact this
  ·have := Fw _ _ _ _ h; exact this
theorem kq {s : St} {key : Nat} {D : Fh} {as : List AV} {C : Option Bf} (h : (Ir s key D as C).ok = true) : s.ok = true := by
 cases C with
 | none => simp [Ir, Ct] at h
 | some C =>
  simp only [Ir, Jj] at h
  have h1 := Fw _ _ _ _ (Ej h).1
  unfold Mp at h1
  rw [AM] at h1
  split at h1
  ·exact h1
  ·rwa [Ed] at h1
theorem Jh {T : GW} {s : St} {key : Nat} {D : Fh} {c : oo} (h : (GY T s key D c).ok = true) : s.ok = true ∧ c.ok = true := by
 have := kq h
 simpa using this
theorem nX {T : GW} {s : St} {key : Nat} {D : Fh} {a : GO} (h : (By T s key D a).ok = true) : s.ok = true := by
 cases a <;> simp only [By] at h
 case callw => cases h
 case store => have := cP h; rwa [Ed] at this
 case app => exact nk h
 case call => exact (Jh h).1
 case callv => exact (Jh h).1
 case box => have := (Ej h).1; rwa [Ed] at this
 case build => have := (Ej h).1; rwa [Ed] at this
 case mkSl => have := (Ej h).1; rwa [Ed] at this
 case slice => have := (Ej h).1; rwa [Ed] at this
 case movz => have := (Ej h).1; rwa [Ed] at this
 case trunc => exact cC h
 all_goals exact (Ej h).1
theorem WL {s : St} {w : Bool} {D : Fh} {m : Mk} (h : (Iz s w D m).ok = true) : s.ok = true ∧ (w = true → m.ok = true ∧ m.hs = [] ∧ m.v.lone = true) := by
 obtain ⟨h1, h2⟩ := NF h
 refine ⟨h1, fun e => ?_⟩
 subst e
 simpa using h2
theorem Yf {T : GW} {s : St} {key : Nat} {D : Fh} {w : Bool} {a : GO} (h : (Hp T s key D w a).ok = true) : s.ok = true := by
 unfold Hp at h
 split at h
 ·unfold aD at h
  split at h
  ·exact (Jh h).1
  ·exact (WL h).1
 ·exact (WL h).1
theorem Yz {T : GW} {s : St} {i : Hx} (h : (CT T s i).ok = true) : s.ok = true := by
 unfold CT Pa at h
 split at h
 ·exact nX h
 ·have := Yf h; simp at this; exact this.1
theorem IG {T : GW} : ∀ (is : List Hx) {s : St}, (EF T is s).ok = true → s.ok = true
 | [], _, h => h
 | i :: r, s, h => Yz (IG r h)
def Xn (P : Program) (vm ss : List Nat) (D : Fh) (op : Op) (a : GO) : Bool :=
 match a with
 | .store sz p x => D == .no && aU P vm ss sz p x op
 | .app sz bytes z a x => nh P vm ss sz bytes z a x op
 | .call f args => LK vm ss f args op
 | .callv f args => Pk vm ss f args op
 | .callp f args => LK vm ss f args op
 | .pur (.call f args) => LK vm ss f args op
 | .pur (.callv f args) => Pk vm ss f args op
 | .pur a => Al a && JH P vm ss op a
 | .pick c a b => Vx vm ss c a b op
 | .flat a => Xn P vm ss D op a
 | .trunc sz x hi => aT P vm ss sz x hi op
 | .movz x => JH P vm ss op (.mov x)
 | .safe _ a => Xn P vm ss D op a
 | a => JH P vm ss op a
section
variable {F Iow : Nat → Prop} {w0 : World} {g0 : Gh} {o0 : CC} {g : Gh} {w w' : World} {tmps : Array Value} {ds : List Deferred} {vm ss ss' : List Nat} {s : St} {P : Program} {o : Oper} {key : Nat} {T : GW} {D : Fh}
 {K : Act → World → Prop} {Q : Exit → Act → World → Prop}
theorem Gg (h : FR F g w tmps vm ss s) {xs : Array Operand} {ys : List CA} (hc : Ka vm ss xs.toList ys = true) : (xs.map ({ tmps := tmps, defers := ds } : Act).eval).size = (ys.map (rd s)).length ∧
  ∀ j, j < (ys.map (rd s)).length → SR (AW F g s.ob) w g s.ob ((xs.map ({ tmps := tmps, defers := ds } : Act).eval).getD j undef) ((ys.map (rd s)).getD j .any) := by
 refine ⟨by simpa using LG hc, fun j hj => ?_⟩
 have := LH (ds := ds) h j hc (by simpa using hj)
 rw [← DI, Array.toList_map]
 exact this
theorem av_app {l r : List AV} {i : Nat} : (l ++ r).getD i .any = if i < l.length then l.getD i .any else r.getD (i - l.length) .any := Ee
theorem Mg {S : Nat → Prop} {ob : CC} {v1 vals v2 : Array Value} {a1 as a2 : List AV} (n1 : v1.size = a1.length) (n : vals.size = as.length) (n2 : v2.size = a2.length)
  (h1 : ∀ j, j < a1.length → SR S w g ob (v1.getD j undef) (a1.getD j .any)) (h : ∀ j, j < as.length → SR S w g ob (vals.getD j undef) (as.getD j .any)) (h2 : ∀ j, j < a2.length → SR S w g ob (v2.getD j undef) (a2.getD j .any)) :
  (v1 ++ vals ++ v2).size = (a1 ++ as ++ a2).length ∧ ∀ j, j < (a1 ++ as ++ a2).length → SR S w g ob ((v1 ++ vals ++ v2).getD j undef) ((a1 ++ as ++ a2).getD j .any) := by
 refine ⟨by simp [n1, n, n2], fun j hj => ?_⟩
 simp only [List.length_append] at hj
 rw [LM, LM, Ee, Ee]
 simp only [Array.size_append, List.length_append, n1, n]
 by_cases c1 : j < a1.length + as.length
 ·rw [if_pos c1, if_pos c1]
  by_cases c2 : j < a1.length
  ·rw [if_pos c2, if_pos c2]; exact h1 j c2
  ·rw [if_neg c2, if_neg c2]; exact h _ (by omega)
 ·rw [if_neg c1, if_neg c1]; exact h2 _ (by omega)
theorem LI {args : List AV} {a : AV} (h : (GV args a).ok = true) : ∃ f a1 a2, a = .fn (.func f) a1 a2 ∧ GV args a = ⟨true, f, a1 ++ args ++ a2⟩ := by
 unfold GV at h ⊢
 split
 ·exact ⟨_, _, _, rfl, rfl⟩
 ·rename_i hne
  split at h
  ·exact absurd rfl (hne _ _ _)
  ·cases h
theorem MF (h : FX F Iow w0 g0 o0 g w tmps vm ss s) (hnd : KU vm) (hd : DR vm ss o.dst D = some ss') (hfit : ∀ d, o.dst = some d → d < tmps.size) {m : Mk} (hp : Ax (AW F g s.ob) w g s.ob key m ((execOp ({ tmps := tmps, defers := ds } : Act).eval o).run P w))
  (hK : ∀ tmps' w' g', tmps'.size = tmps.size → FX F Iow w0 g0 o0 g' w' tmps' vm ss' (CZ s key D m) → K ⟨tmps', ds⟩ w') : o.upon P ⟨tmps, ds⟩ K Q ((execOp ({ tmps := tmps, defers := ds } : Act).eval o).run P w) := by
 obtain ⟨v, w', g', hr, hfx⟩ := h.still hnd hd hfit hp
 rw [hr, Oper.upon_value, Jw]
 exact hK _ _ _ (Gb _ _ _) hfx
theorem and_tt {a b : Bool} (h : (a && b) = true) : a = true ∧ b = true := by simpa using h
theorem bg {a : AV} (h : Ce a = true) (ob : CC) : a.dv ob = a := by cases a <;> first | rfl | (cases h)
theorem Lw : ∀ (ms : List Md) (as : List AV) (ob ob' : CC), (∀ a, a ∈ as → Ce a = true) → BN ob ms as = BN ob' ms as
 | [], _, _, _, _ => rfl
 | _ :: _, [], _, _, _ => rfl
 | m :: ms, a :: as, ob, ob', h => by
  have h1 := h a (by simp)
  simp only [BN]
  rw [Lw ms as ob ob' fun x hx => h x (by simp [hx])]
  congr 1
  cases m
  ·simp only [DB]; rw [bg h1, bg h1]
  ·cases a <;> first | rfl | (cases h1)
  ·cases a <;> first | rfl | (cases h1)
theorem aR {T : GW} {f : Nat} {as : List AV} {ob ob' : CC} (h : ∀ a, a ∈ as → Ce a = true) : CJ T ob ⟨true, f, as⟩ = CJ T ob' ⟨true, f, as⟩ := by
 simp only [CJ]
 cases T f with
 | none => rfl
 | some C => simp only [UU]; rw [Lw C.modes as ob ob' h]
theorem kP {b : Bool} {m : Mk} (h : (In b m).ok = true) : b = true ∧ In b m = m := by
 unfold In at h ⊢
 rw [AM] at h ⊢
 split at h
 ·rename_i hb
  simp only [Bool.and_eq_true, List.isEmpty_iff] at hb
  rw [if_pos (by simp [hb.1, hb.2.1, hb.2.2])]
  refine ⟨hb.1, ?_⟩
  cases m
  simp only at hb ⊢
  rw [hb.2.1]
 ·cases h
theorem dX {T : GW} {s : St} {key : Nat} {D : Fh} {a : GO} (hok : (By T s key D (.flat a)).ok = true) : By T s key D (.flat a) = By T s key D a := by
 simp only [By] at hok ⊢
 obtain ⟨_, hm⟩ := Ej hok
 obtain ⟨hb, he⟩ := kP hm
 rw [he] at hm ⊢
 have hs : ∀ x, x ∈ Dt a → Ce (rd s x) = true := fun x hx => List.all_eq_true.1 hb x hx
 cases a <;> simp only [Fr] at hm ⊢ <;> (try (cases hm; done))
 case callp f args =>
  rw [aR (ob' := s.ob) fun y hy => by
   obtain ⟨x, hx, rfl⟩ := List.mem_map.1 hy
   exact hs x hx]
 case pur b =>
  cases b <;> simp only [Fr] at hm ⊢ <;> (try (cases hm; done))
  rfl
 case len st x =>
  have h1 := hs x (by simp [Dt, BA])
  have e : AO (rd s) [] key (.len st x) = AO (rd s) s.ob key (.len st x) := by
   simp only [AO]
   revert h1
   generalize rd s x = y
   intro h1
   cases y <;> first | rfl | (cases h1)
  show CZ s key D (AO (rd s) [] key (.len st x)) = CZ s key D (AO (rd s) s.ob key (.len st x))
  rw [e]
 all_goals rfl
theorem bH {T : GW} {s : St} {key : Nat} {a : GO} : GK T s key a = Km T (rd s) s.ob key a := by cases a <;> rfl
theorem kT {ob ob' : CC} {a : AV} (h : ∀ k, k ∈ a.key1 → AL k ob = AL k ob') : a.dv1 ob = a.dv1 ob' := by
 cases a <;> (try rfl)
 ·rename_i k; simp only [AV.dv1]; rw [h k (by simp [AV.key1])]
 ·rename_i k i off; simp only [AV.dv1]; rw [h k (by simp [AV.key1])]
theorem ua {ob ob' : CC} {a : AV} (h : ∀ k, k ∈ a.keys → AL k ob = AL k ob') : a.dv ob = a.dv ob' := by
 cases a <;> (try rfl)
 ·rename_i f fi ca
  simp only [AV.keys, List.mem_flatMap, List.mem_append] at h
  simp only [AV.dv]
  rw [List.map_congr_left (l := fi) (g := AV.dv1 ob') fun x hx => kT fun k hk => h k ⟨x, .inl hx, hk⟩, List.map_congr_left (l := ca) (g := AV.dv1 ob') fun x hx => kT fun k hk => h k ⟨x, .inr hx, hk⟩]
 ·rename_i k; simp only [AV.dv]; rw [h k (by simp [AV.keys])]
 ·rename_i k i off; simp only [AV.dv]; rw [h k (by simp [AV.keys])]
theorem Ye {ob ob' : CC} {a : AV} (h : ∀ k, k ∈ a.keys → AL k ob = AL k ob') : Gf ob a = Gf ob' a := by
 cases a <;> (try rfl)
 ·rename_i k; simp only [Gf]; rw [h k (by simp [AV.keys])]
 ·rename_i k i off
  cases off <;> (try rfl)
  simp only [Gf]; rw [h k (by simp [AV.keys])]
theorem Pw : ∀ (ms : List Md) (as : List AV) {ob ob' : CC}, (∀ a, a ∈ as → ∀ k, k ∈ a.keys → AL k ob = AL k ob') → BN ob ms as = BN ob' ms as
 | [], _, _, _, _ => rfl
 | _ :: _, [], _, _, _ => rfl
 | m :: ms, a :: as, ob, ob', h => by
  simp only [BN]
  rw [Pw ms as fun x hx => h x (by simp [hx])]
  congr 1
  cases m
  ·exact ua (h a (by simp))
  ·exact Ye (h a (by simp))
  ·exact Ye (h a (by simp))
theorem ZF {T : GW} {f : Nat} {as : List AV} {ob ob' : CC} (h : ∀ a, a ∈ as → ∀ k, k ∈ a.keys → AL k ob = AL k ob') : CJ T ob ⟨true, f, as⟩ = CJ T ob' ⟨true, f, as⟩ := by
 simp only [CJ]
 cases T f with
 | none => rfl
 | some C => simp only [UU]; rw [Pw C.modes as h]
theorem Xv {r : CA → AV} {ob ob' : CC} {key : Nat} {a : GO} (h : ∀ x, x ∈ BA a → ∀ k, k ∈ (r x).keys → AL k ob = AL k ob') : AO r ob key a = AO r ob' key a := by
 cases a <;> (try rfl)
 case load agg sz p =>
  have h1 := h p (by simp [BA])
  simp only [AO]
  revert h1
  generalize r p = y
  intro h1
  cases y <;> (try rfl)
  rename_i k i off
  simp only [Il]; rw [h1 k (by simp [AV.keys])]
 case b2s x =>
  have h1 := h x (by simp [BA])
  simp only [AO]
  revert h1
  generalize r x = y
  intro h1
  cases y <;> (try rfl)
  rename_i k
  simp only [QR]; rw [h1 k (by simp [AV.keys])]
 case ixAddr sz x i =>
  have h1 := h x (by simp [BA])
  simp only [AO]
  revert h1
  generalize r x = y
  intro h1
  cases y <;> (try rfl)
  rename_i k
  simp only [Gt]; rw [h1 k (by simp [AV.keys])]
 case len st x =>
  have h1 := h x (by simp [BA])
  simp only [AO]
  revert h1
  generalize r x = y
  intro h1
  cases y <;> (try rfl)
  rename_i k
  simp only [QJ]; rw [h1 k (by simp [AV.keys])]
theorem fp {T : GW} {r : CA → AV} {ob ob' : CC} {key : Nat} {a : GO} (h : ∀ x, x ∈ Cz a → ∀ k, k ∈ (r x).keys → AL k ob = AL k ob') : GJ T r ob key a = GJ T r ob' key a := by
 have hm : ∀ l : List CA, (∀ x, x ∈ l → x ∈ Cz a) → ∀ y, y ∈ l.map r → ∀ k, k ∈ y.keys → AL k ob = AL k ob' := fun l hl y hy => by
  obtain ⟨x, hx, rfl⟩ := List.mem_map.1 hy
  exact h x (hl x hx)
 cases a <;> (try rfl)
 case callp f args => simp only [GJ]; rw [ZF (hm args fun x hx => hx)]
 case pur b =>
  have h' : ∀ x, x ∈ BA b → ∀ k, k ∈ (r x).keys → AL k ob = AL k ob' := h
  clear h
  cases b
  case callv => rfl
  case call f args => simp only [GJ, Km]; rw [ZF (hm args fun x hx => hx)]
  all_goals
   simp only [GJ, Km]
   rw [Xv h']
 all_goals
  simp only [GJ]
  rw [Xv (by simpa only [Cz] using h)]
theorem NM {d k : Nat} (hk : k / 32 ≠ d) : ∀ ob : CC, AL k (DJ d ob) = AL k ob
 | [] => rfl
 | p :: r => by
  have ih := NM hk r
  by_cases c : p.1 / 32 = d
  ·have hne : (p.1 == k) = false := by rw [beq_eq_false_iff_ne]; intro e; exact hk (by rw [← e]; exact c)
   simp only [DJ, AL, c, beq_self_eq_true, cond_true, hne, cond_false, ih]
  ·have : (p.1 / 32 == d) = false := by simpa using c
   simp only [DJ, AL, this, cond_false, ih]
theorem NL {k : Nat} : ∀ (ds : List Nat) (ob : CC), (∀ d, d ∈ ds → k / 32 ≠ d) → AL k (HQ ds ob) = AL k ob
 | [], _, _ => rfl
 | d :: ds, ob, h => by
  simp only [HQ]
  rw [NL ds _ fun e he => h e (by simp [he]), NM (h d (by simp))]
theorem YM {ds : List Nat} {a : AV} (h : Jy ds a = true) {k : Nat} (hk : k ∈ a.keys) : ∀ d, d ∈ ds → k / 32 ≠ d := by
 intro d hd e
 simp only [Jy, Bool.and_eq_true, Bool.not_eq_true', List.any_eq_false] at h
 have := h.2 k hk
 apply this
 rw [List.any_eq_true]
 exact ⟨d, hd, by simpa using e.symm⟩
theorem fo {b : Bool} {ds : List Nat} {m : Mk} (h : (TR b ds m).ok = true) : b = true ∧ m.hs = [] ∧ TR b ds m = m := by
 unfold TR at h ⊢
 rw [AM] at h ⊢
 split at h
 ·rename_i hc
  simp only [Bool.and_eq_true, List.isEmpty_iff] at hc
  refine ⟨hc.1, hc.2.1, ?_⟩
  rw [if_pos (by simp [hc.1, hc.2.1, hc.2.2])]
  obtain ⟨a, b, c⟩ := m
  obtain ⟨_, rfl, _⟩ := hc
  rfl
 ·cases h
theorem cS {T : GW} {s : St} {key : Nat} {D : Fh} {ks : List Nat} {a : GO} (hok : (By T s key D (.safe ks a)).ok = true) : By T s key D (.safe ks a) = By T s key D a := by
 simp only [By] at hok ⊢
 obtain ⟨_, hm⟩ := Ej hok
 unfold HI at hm ⊢
 obtain ⟨hb, -, he⟩ := fo hm
 rw [he] at hm ⊢
 have hs : ∀ x, x ∈ Cz a → ∀ k, k ∈ (rd s x).keys → AL k (HQ ks s.ob) = AL k s.ob := fun x hx k hk =>
  NL ks _ (YM (List.all_eq_true.1 hb x hx) hk)
 rw [fp hs] at hm ⊢
 cases a
 case pur b =>
  cases b
  case callv => simp [GJ, bad] at hm
  all_goals
   simp only [GJ, By, bH]
 case pick => rfl
 case callp => rfl
 all_goals first
  | rfl
  | (simp [GJ, EE, bad] at hm; done)
theorem WN (hT : HT P T) (h : FX F Iow w0 g0 o0 g w tmps vm ss s) (hnd : KU vm) (hd : DR vm ss o.dst D = some ss') (hfit : ∀ d, o.dst = some d → d < tmps.size) {a : GO} (hc : Xn P vm ss D o.op a = true) (hok : (By T s key D a).ok = true)
  (hK : ∀ tmps' w' g', tmps'.size = tmps.size → FX F Iow w0 g0 o0 g' w' tmps' vm ss' (By T s key D a) → K ⟨tmps', ds⟩ w') : o.upon P ⟨tmps, ds⟩ K Q ((execOp ({ tmps := tmps, defers := ds } : Act).eval o).run P w) := by
 have still : ∀ {a : GO}, JH P vm ss o.op a = true → (CZ s key D (AO (rd s) s.ob key a)).ok = true → (∀ tmps' w' g', tmps'.size = tmps.size → FX F Iow w0 g0 o0 g' w' tmps' vm ss' (CZ s key D (AO (rd s) s.ob key a)) → K ⟨tmps', ds⟩ w') →
   o.upon P ⟨tmps, ds⟩ K Q ((execOp ({ tmps := tmps, defers := ds } : Act).eval o).run P w) := fun hc hok hK =>
  MF h hnd hd hfit (Mt (ds := ds) (key := key) h.toFR hc (Ej hok).2) hK
 have frozen : ∀ {a : GO} (ks : List Nat), JH P vm ss o.op a = true → (CZ (freezeAll s ks) key D (AO (rd (freezeAll s ks)) (freezeAll s ks).ob key a)).ok = true →
   (∀ tmps' w' g', tmps'.size = tmps.size → FX F Iow w0 g0 o0 g' w' tmps' vm ss' (CZ (freezeAll s ks) key D (AO (rd (freezeAll s ks)) (freezeAll s ks).ob key a)) → K ⟨tmps', ds⟩ w') →
   o.upon P ⟨tmps, ds⟩ K Q ((execOp ({ tmps := tmps, defers := ds } : Act).eval o).run P w) := fun ks hc hok hK =>
  MF (h.freezeAll ks) hnd hd hfit (Mt (ds := ds) (key := key) (h.freezeAll ks).toFR hc (Ej hok).2) hK
 cases a
 case store sz p x =>
  simp only [Xn, Bool.and_eq_true, beq_iff_eq] at hc
  obtain ⟨rfl, hc⟩ := hc
  simp only [By] at hok hK
  obtain ⟨w', hr, hfx⟩ := (h.freezeAll (rd s x).keys).store (ds := ds) hc hok
  rw [hr, Oper.upon_skip, Jw]
  have hdn : o.dst = none ∧ ss' = ss := by
   revert hd
   cases o.dst with
   | none => intro hd; exact ⟨rfl, by simpa [DR] using hd.symm⟩
   | some d => intro hd; simp [DR] at hd
  rw [hdn.1]
  rw [hdn.2] at hK
  exact hK _ _ _ rfl hfx
 case app sz bytes z a x =>
  simp only [Xn] at hc
  simp only [By] at hok hK
  obtain ⟨v, w', g', hr, hfx⟩ := h.app (ds := ds) hnd hd hfit hc hok
  rw [hr, Oper.upon_value, Jw]
  exact hK _ _ _ (Gb _ _ _) hfx
 case call f args =>
  simp only [Xn] at hc
  simp only [By] at hok hK
  unfold LK at hc
  split at hc
  ·rename_i f' xs tys he
   simp only [Bool.and_eq_true, beq_iff_eq] at hc
   obtain ⟨rfl, hc⟩ := hc
   obtain ⟨e1, e2⟩ := Gg (ds := ds) h.toFR hc
   have hcr := Fs (P := P) (w := w) (o := o) (ρ := ({ tmps := tmps, defers := ds } : Act).eval) (f := f') (v1 := #[]) (v2 := #[]) rfl he
   rw [Array.empty_append, Array.append_empty] at hcr
   rw [hcr]
   exact Oz hT h hnd hd hfit e1 e2 hok hK
  ·cases hc
 case callp f args =>
  simp only [Xn] at hc
  simp only [By] at hok hK
  obtain ⟨hsok, hm⟩ := Ej hok
  simp only [Gc, Bool.and_eq_true, List.isEmpty_iff] at hm
  unfold LK at hc
  split at hc
  ·rename_i f' xs tys he
   simp only [Bool.and_eq_true, beq_iff_eq] at hc
   obtain ⟨rfl, hc⟩ := hc
   obtain ⟨e1, e2⟩ := Gg (ds := ds) h.toFR hc
   have hcr := Fs (P := P) (w := w) (o := o) (ρ := ({ tmps := tmps, defers := ds } : Act).eval) (f := f') (v1 := #[]) (v2 := #[]) rfl he
   rw [Array.empty_append, Array.append_empty] at hcr
   rw [hcr]
   have := IJ (s := s) (c := ⟨true, f', args.map (rd s)⟩) hT h e1 e2 hm.1 hm.2.2 hm.2.1
   refine Fv this (fun v w' hR => ?_) (fun c w' hR => ?_) (fun w' hR => ?_)
   ·obtain ⟨v', e, hw, hv⟩ := hR
    cases e
    rw [Jw]
    refine hK _ _ g (Gb _ _ _) ?_
    have h1 := (h.toFR.grow hw).put hnd hd hfit (Gc (CJ T s.ob ⟨true, f', args.map (rd s)⟩)).ok (v := v) (a := (CJ T s.ob ⟨true, f', args.map (rd s)⟩).v) (fun _ => hv)
    have hob : (CZ s key D (Gc (CJ T s.ob ⟨true, f', args.map (rd s)⟩))).ob = s.ob := by cases D <;> rfl
    exact FX.mk' (w := w) h1 h.same (hw.mono fun _ _ c => c.elim) (fun k hk => h.hio k (by rw [hob] at hk; exact hk)) h.fio (by rw [hob]; exact h.par)
   ·obtain ⟨v', e, _⟩ := hR; cases e
   ·obtain ⟨v', e, _⟩ := hR; cases e
  ·cases hc
 case callv f args =>
  simp only [Xn] at hc
  simp only [By] at hok hK
  unfold Pk at hc
  split at hc
  ·rename_i y xs tys he
   simp only [Bool.and_eq_true] at hc
   obtain ⟨hcf, hc⟩ := hc
   obtain ⟨e1, e2⟩ := Gg (ds := ds) h.toFR hc
   have hvf := h.toFR.src (ds := ds) hcf
   obtain ⟨fid, a1, a2, ea, ecal⟩ := LI (Jh hok).2
   rw [ea] at hvf
   obtain ⟨v1, v2, ev, n1, n2, h1, h2⟩ := hvf
   rw [Fs (P := P) (w := w) (ρ := ({ tmps := tmps, defers := ds } : Act).eval) ev he]
   rw [ecal] at hok hK
   obtain ⟨q1, q2⟩ := Mg (w := w) (g := g) n1 e1 n2 (fun j hj => (h1 j hj).toSR) e2 (fun j hj => (h2 j hj).toSR)
   exact Oz hT h hnd hd hfit (c := ⟨true, fid, a1 ++ args.map (rd s) ++ a2⟩) q1 q2 hok hK
  ·cases hc
 case pick c a b =>
  simp only [Xn] at hc
  simp only [By] at hok hK
  have hcv : SR (AW F g s.ob) w g s.ob (({ tmps := tmps, defers := ds } : Act).eval (match o.op with | .pick x _ _ => x | _ => .const undef)) (rd s c) := by
   unfold Vx at hc
   split at hc
   ·rename_i x y z he
    simp only [Bool.and_eq_true] at hc
    rw [he]
    exact h.toFR.src hc.1
   ·cases hc
  exact MF h hnd hd hfit (fq (ds := ds) (key := key) h.toFR hc hcv (Ej hok).2) hK
 case pur a =>
  simp only [By] at hok hK
  obtain ⟨hsok, hm⟩ := Ej hok
  have fin : ∀ (v : Value) (w' : World), (GK T s key a).hs = [] → Aj (fun _ => False) w w' → SR (AW F g s.ob) w' g s.ob v (GK T s key a).v → K (({ tmps := tmps, defers := ds } : Act).put o.dst v) w' := by
   intro v w' hh hw hv
   rw [Jw]
   refine hK _ _ g (Gb _ _ _) ?_
   have h1 := (h.toFR.grow hw).put hnd hd hfit (GK T s key a).ok (v := v) (a := (GK T s key a).v) (fun _ => hv)
   have e : CZ s key D (GK T s key a) = Ar s (GK T s key a).ok (GK T s key a).v D := by unfold CZ; rw [hh]; rfl
   have hob : (Ar s (GK T s key a).ok (GK T s key a).v D).ob = s.ob := by cases D <;> rfl
   rw [e]
   exact FX.mk' (w := w) h1 h.same (hw.mono fun _ _ c => c.elim) (fun k hk => h.hio k (by rw [hob] at hk; exact hk)) h.fio (by rw [hob]; exact h.par)
  have still2 : Al a = true → JH P vm ss o.op a = true → GK T s key a = Gc (Lp (AO (rd s) s.ob key a)) → o.upon P ⟨tmps, ds⟩ K Q ((execOp ({ tmps := tmps, defers := ds } : Act).eval o).run P w) := by
   intro hg hc he
   rw [he] at hm fin
   simp only [Gc, Bool.and_eq_true] at hm fin
   obtain ⟨v, w', hr, hw, hv⟩ := Ax.frz h.toFR (Mt (ds := ds) (key := key) h.toFR hc hm.1)
   rw [hr, Oper.upon_value]
   exact fin v w' trivial hw hv
  cases a
  case call f args =>
   simp only [Xn] at hc
   simp only [GK, Gc, Bool.and_eq_true, List.isEmpty_iff] at hm fin
   unfold LK at hc
   split at hc
   ·rename_i f' xs tys he
    simp only [Bool.and_eq_true, beq_iff_eq] at hc
    obtain ⟨rfl, hc⟩ := hc
    obtain ⟨e1, e2⟩ := Gg (ds := ds) h.toFR hc
    have hcr := Fs (P := P) (w := w) (o := o) (ρ := ({ tmps := tmps, defers := ds } : Act).eval) (f := f') (v1 := #[]) (v2 := #[]) rfl he
    rw [Array.empty_append, Array.append_empty] at hcr
    rw [hcr]
    have := IJ (s := s) (c := ⟨true, f', args.map (rd s)⟩) hT h e1 e2 hm.1 hm.2.2 hm.2.1
    refine Fv this (fun v w' hR => ?_) (fun c w' hR => ?_) (fun w' hR => ?_)
    ·obtain ⟨v', e, hw, hv⟩ := hR; cases e; exact fin _ _ trivial hw hv
    ·obtain ⟨v', e, _⟩ := hR; cases e
    ·obtain ⟨v', e, _⟩ := hR; cases e
   ·cases hc
  case callv f args =>
   simp only [Xn] at hc
   simp only [GK, Gc, Bool.and_eq_true, List.isEmpty_iff] at hm fin
   unfold Pk at hc
   split at hc
   ·rename_i y xs tys he
    simp only [Bool.and_eq_true] at hc
    obtain ⟨hcf, hc⟩ := hc
    obtain ⟨e1, e2⟩ := Gg (ds := ds) h.toFR hc
    have hvf := h.toFR.src (ds := ds) hcf
    have hcok : (GV (args.map (rd s)) (rd s f)).ok = true := by
     have := hm.1
     simp only [CJ, EU, Bool.and_eq_true] at this
     exact this.1
    obtain ⟨fid, a1, a2, ea, ecal⟩ := LI hcok
    rw [ea] at hvf
    obtain ⟨v1, v2, ev, n1, n2, h1, h2⟩ := hvf
    rw [Fs (P := P) (w := w) (ρ := ({ tmps := tmps, defers := ds } : Act).eval) ev he]
    rw [ecal] at hm fin
    obtain ⟨q1, q2⟩ := Mg (w := w) (g := g) n1 e1 n2 (fun j hj => (h1 j hj).toSR) e2 (fun j hj => (h2 j hj).toSR)
    have := IJ (s := s) (c := ⟨true, fid, a1 ++ args.map (rd s) ++ a2⟩) hT h q1 q2 hm.1 hm.2.2 hm.2.1
    refine Fv this (fun v w' hR => ?_) (fun c w' hR => ?_) (fun w' hR => ?_)
    ·obtain ⟨v', e, hw, hv⟩ := hR; cases e; exact fin _ _ trivial hw hv
    ·obtain ⟨v', e, _⟩ := hR; cases e
    ·obtain ⟨v', e, _⟩ := hR; cases e
   ·cases hc
  all_goals
   simp only [Xn, Bool.and_eq_true] at hc
   first
   | exact still2 hc.1 hc.2 rfl
   | exact absurd hc.1 Bool.false_ne_true
 case callw f args => simp [By, Ct] at hok
 case flat b =>
  have e := dX hok
  rw [e] at hok hK
  exact WN hT h hnd hd hfit (by simpa only [Xn] using hc) hok hK
 case trunc sz x hi =>
  simp only [Xn] at hc
  simp only [By] at hok hK
  obtain ⟨v, w', g', hr, hfx⟩ := h.trunc (ds := ds) hnd hd hfit hc hok
  rw [hr, Oper.upon_value, Jw]
  exact hK _ _ _ (Gb _ _ _) hfx
 case movz x => exact frozen (rd s x).keys (a := .mov x) (by simpa only [Xn] using hc) hok hK
 case safe ks b =>
  have e := cS hok
  rw [e] at hok hK
  exact WN hT h hnd hd hfit (by simpa only [Xn] using hc) hok hK
 case box x => exact frozen (rd s x).keys (a := .box x) hc hok hK
 case build z ps => exact frozen _ (a := .build z ps) hc hok hK
 case mkSl sz z n ps => exact frozen _ (a := .mkSl sz z n ps) hc hok hK
 case slice sz x lo hi => exact frozen _ (a := .slice sz x lo hi) hc hok hK
 all_goals
  simp only [Xn] at hc
  simp only [By] at hok hK
  exact still hc hok hK
end
end Go.Proofs.YthdmeanbdohehaaGreatDoor
