/- A statement: its operations one behind the other. No condition. -/
import Derived.Test.YthdmeanbdohehaaGreatDoorEngT
namespace Go.Proofs.YthdmeanbdohehaaGreatDoor
open Go Go.RowKit
set_option linter.unusedSimpArgs false
set_option linter.unusedVariables false
def cG (P : Program) (vm ss : List Nat) (op : Op) (a : GO) : Bool := Al a && JH P vm ss op a
def kr (P : Program) (vm ss : List Nat) (op : Op) (a : GO) : Bool :=
 match a with
 | .call f args => LK vm ss f args op
 | .callv f args => Pk vm ss f args op
 | .callw f args => LK vm ss f args op
 | .pick c a b => Vx vm ss c a b op
 | a => cG P vm ss op a
def Xa (ops : Array Oper) (vm ss : List Nat) : Option (Nat × Bool) → Option (CA × Bool) → Bool
 | none, none => true
 | some (j, w), some (x, w') => w == w' && (match (ops[j]?).bind (·.dst) with
  | some t => BE vm ss (.tmp t) x
  | none => false)
 | _, _ => false
def bh (n : Nat) : Option Nat → Bool
 | some d => decide (d < n)
 | none => true
def XT (P : Program) (n : Nat) (ops : Array Oper) (vm ss : List Nat) (o : Oper) (i : Hx) : Option (List Nat) :=
 bif bh n o.dst && (Xa ops vm ss o.guard i.guard && (match i.guard with
  | none => Xn P vm ss i.dst o.op i.op
  | some _ => kr P vm ss o.op i.op)) then DR vm ss o.dst i.dst else none
def Iq (P : Program) (n : Nat) (ops : Array Oper) (vm : List Nat) : List Nat → List Oper → List Hx → Option (List Nat)
 | ss, [], [] => some ss
 | ss, o :: os, i :: is => match XT P n ops vm ss o i with
  | some ss' => Iq P n ops vm ss' os is
  | none => none
 | _, _, _ => none
section
variable {F Iow : Nat → Prop} {w0 : World} {g0 : Gh} {o0 : CC} {g : Gh} {w w' : World} {tmps : Array Value} {ds : List Deferred} {vm ss ss' : List Nat} {s : St} {P : Program} {o : Oper} {key : Nat} {T : GW} {D : Fh}
 {K : Act → World → Prop} {Q : Exit → Act → World → Prop} {ops : Array Oper} {n : Nat} {i : Hx}
theorem dO (h : FR F g w tmps vm ss s) {j t : Nat} {x : CA} (hd : (ops[j]?).bind (·.dst) = some t) (hc : BE vm ss (.tmp t) x = true) (hok : LB (rd s x) = true) (want : Bool) :
  (yielded ops tmps j == some want) = Yl want (rd s x) := by
 have hv := h.src (ds := []) hc
 have hfit : t < tmps.size := by
  have hm : ∀ {l : List Nat} {m : Nat}, l[m]? = some t → t ∈ l := fun h => List.mem_of_getElem? h
  cases x with
  | v m => simp only [BE, beq_iff_eq] at hc; exact h.fit t (.inl (hm hc))
  | s m => simp only [BE, beq_iff_eq] at hc; exact h.fit t (.inr (hm hc))
  | c a => simp [BE] at hc
 have he : tmps[t]? = some (({ tmps := tmps, defers := [] } : Act).eval (.tmp t)) := by
  simp [Act.eval, Array.getD_eq_getD_getElem?, Array.getElem?_eq_getElem hfit]
 have hy : yielded ops tmps j = match ({ tmps := tmps, defers := [] } : Act).eval (.tmp t) with | .bool b => some b | _ => none := by
  unfold yielded
  rw [hd]
  simp only [Option.bind_some, he]
  cases (({ tmps := tmps, defers := [] } : Act).eval (.tmp t)) <;> rfl
 rw [hy]
 revert hok
 generalize rd s x = a at hv
 intro hok
 cases a <;> simp only [LB] at hok <;> try (cases hok; done)
 case bool b => rw [Jq hv]; cases b <;> cases want <;> rfl
 case opt c a =>
  cases c
  ·simp only [SR, Bool.false_eq_true, if_false] at hv
   rw [hv]; cases want <;> rfl
  ·simp only [Bool.not_true, Bool.false_or] at hok
   cases a <;> simp only [QY] at hok <;> try (cases hok; done)
   rename_i b
   simp only [SR, if_true] at hv
   have := Jq (ob := s.ob) (g := g) (hv.toSR)
   rw [this]; cases want <;> cases b <;> rfl
theorem gX (hT : HT P T) (h : FX F Iow w0 g0 o0 g w tmps vm ss s) (hnd : KU vm) (hd : DR vm ss o.dst D = some ss') (hfit : ∀ d, o.dst = some d → d < tmps.size) {a : GO} (hc : kr P vm ss o.op a = true) (hnw : ∀ f l, a ≠ .callw f l) (hok : (Iz s true D (CW T s true key a)).ok = true)
  (hK : ∀ tmps' w' g', tmps'.size = tmps.size → FX F Iow w0 g0 o0 g' w' tmps' vm ss' (Iz s true D (CW T s true key a)) → K ⟨tmps', ds⟩ w') : o.upon P ⟨tmps, ds⟩ K Q ((execOp ({ tmps := tmps, defers := ds } : Act).eval o).run P w) := by
 obtain ⟨_, hm⟩ := WL hok
 obtain ⟨hmok, hmhs, hml⟩ := hm rfl
 have fin : ∀ (v : Value) (w' : World), Aj (fun _ => False) w w' → SR (AW F g s.ob) w' g s.ob v (CW T s true key a).v → K (({ tmps := tmps, defers := ds } : Act).put o.dst v) w' := by
  intro v w' hw hv
  rw [Jw]
  exact hK _ _ _ (Gb _ _ _) (h.guardPut hnd hd hfit hw (fun _ _ => hv) hok)
 have hu := h.toFR.unS
 have ret : ∀ {m : Mk}, m.hs = [] → Ax (AW F g s.ob) w g s.ob key m ((execOp ({ tmps := tmps, defers := ds } : Act).eval o).run P w) → m.v = (CW T s true key a).v → o.upon P ⟨tmps, ds⟩ K Q ((execOp ({ tmps := tmps, defers := ds } : Act).eval o).run P w) := by
  intro m hh hp hv
  obtain ⟨v, w', hr, hw, hcase⟩ := hp
  rw [hr, Oper.upon_value]
  rcases hcase with ⟨_, hs⟩ | ⟨k, h', b, cap, e, _⟩
  ·exact fin v w' hw (hv ▸ hs)
  ·rw [hh] at e; cases e
 have retF : ∀ {m : Mk}, Ax (AW F g s.ob) w g s.ob key m ((execOp ({ tmps := tmps, defers := ds } : Act).eval o).run P w) → (Lp m).v = (CW T s true key a).v → o.upon P ⟨tmps, ds⟩ K Q ((execOp ({ tmps := tmps, defers := ds } : Act).eval o).run P w) := by
  intro m hp hv
  obtain ⟨v, w', hr, hw, hs⟩ := Ax.frz h.toFR hp
  rw [hr, Oper.upon_value]
  exact fin v w' hw (hv ▸ hs)
 have still : Al a = true → JH P vm ss o.op a = true → CW T s true key a = EU (Al a && (BA a).all fun x => CQ true (rd s x)) (Lp (AO (Ow s) s.ob key a)) → o.upon P ⟨tmps, ds⟩ K Q ((execOp ({ tmps := tmps, defers := ds } : Act).eval o).run P w) := by
  intro hg hc he
  rw [he] at hmok hmhs
  simp only [EU, Bool.and_eq_true, List.all_eq_true] at hmok hmhs
  obtain ⟨⟨_, hall⟩, hsok⟩ := hmok
  have hcg : AO (Ow s) s.ob key a = AO (rd (unS s)) s.ob key a := Eg hg fun x hx => (TT (hall x hx)).symm
  rw [hcg] at hsok
  exact retF (m := AO (rd (unS s)) s.ob key a) (Mt (ds := ds) (key := key) hu hc hsok) (by rw [he, hcg]; rfl)
 have optall : ∀ {as : List CA}, (as.all fun x => CQ true (rd s x)) = true → as.map (Ow s) = as.map (rd (unS s)) := fun hall => by
  simp only [List.all_eq_true] at hall
  exact List.map_congr_left fun x hx => (TT (hall x hx)).symm
 cases a
 case pick c x y =>
  simp only [kr] at hc
  simp only [CW, EU, Bool.and_eq_true] at hmok hmhs
  have hcv : SR (AW F g s.ob) w g s.ob (({ tmps := tmps, defers := ds } : Act).eval (match o.op with | .pick x _ _ => x | _ => .const undef)) (Ow s c) := by
   rw [← TT hmok.1]
   unfold Vx at hc
   split at hc
   ·rename_i p q z he
    simp only [Bool.and_eq_true] at hc
    rw [he]
    exact hu.src hc.1
   ·cases hc
  exact ret (m := IQ true (rd s x) (rd s y) (Ow s c)) hmhs (fq (ds := ds) (key := key) h.toFR hc hcv hmok.2) rfl
 case call f args =>
  simp only [kr] at hc
  simp only [CW, EU, Bool.and_eq_true] at hmok hmhs hml fin
  unfold LK at hc
  split at hc
  ·rename_i f' xs tys he
   simp only [Bool.and_eq_true, beq_iff_eq] at hc
   obtain ⟨rfl, hc⟩ := hc
   rw [optall (by simpa [BA] using hmok.1)] at hmok hmhs hml fin
   obtain ⟨e1, e2⟩ := Gg (ds := ds) hu hc
   have hcr := Fs (P := P) (w := w) (o := o) (ρ := ({ tmps := tmps, defers := ds } : Act).eval) (f := f') (v1 := #[]) (v2 := #[]) rfl he
   rw [Array.empty_append, Array.append_empty] at hcr
   rw [hcr]
   have := IJ (s := unS s) (c := ⟨true, f', args.map (rd (unS s))⟩) hT h.unS e1 e2 hmok.2 hml hmhs
   refine Fv this (fun v w' hR => ?_) (fun c w' hR => ?_) (fun w' hR => ?_)
   ·obtain ⟨v', e, hw, hv⟩ := hR; cases e; exact fin _ _ hw hv
   ·obtain ⟨v', e, _⟩ := hR; cases e
   ·obtain ⟨v', e, _⟩ := hR; cases e
  ·cases hc
 case callv f args =>
  simp only [kr] at hc
  simp only [CW, EU, Bool.and_eq_true] at hmok hmhs hml fin
  unfold Pk at hc
  split at hc
  ·rename_i y xs tys he
   simp only [Bool.and_eq_true] at hc
   obtain ⟨hcf, hc⟩ := hc
   have hall : CQ true (rd s f) = true ∧ (args.all fun x => CQ true (rd s x)) = true := by
    simpa [BA] using hmok.1
   rw [optall hall.2, ← TT hall.1] at hmok hmhs hml fin
   obtain ⟨e1, e2⟩ := Gg (ds := ds) hu hc
   have hvf := hu.src (ds := ds) hcf
   have hcok : (GV (args.map (rd (unS s))) (rd (unS s) f)).ok = true := by
    have := hmok.2
    simp only [CJ, EU, Bool.and_eq_true] at this
    exact this.1
   obtain ⟨fid, a1, a2, ea, ecal⟩ := LI hcok
   rw [ea] at hvf
   obtain ⟨v1, v2, ev, n1, n2, h1, h2⟩ := hvf
   rw [Fs (P := P) (w := w) (ρ := ({ tmps := tmps, defers := ds } : Act).eval) ev he]
   rw [ecal] at hmok hmhs hml fin
   obtain ⟨q1, q2⟩ := Mg (w := w) (g := g) n1 e1 n2 (fun j hj => (h1 j hj).toSR) e2 (fun j hj => (h2 j hj).toSR)
   have := IJ (s := unS s) (c := ⟨true, fid, a1 ++ args.map (rd (unS s)) ++ a2⟩) hT h.unS q1 q2 hmok.2 hml hmhs
   refine Fv this (fun v w' hR => ?_) (fun c w' hR => ?_) (fun w' hR => ?_)
   ·obtain ⟨v', e, hw, hv⟩ := hR; cases e; exact fin _ _ hw hv
   ·obtain ⟨v', e, _⟩ := hR; cases e
   ·obtain ⟨v', e, _⟩ := hR; cases e
  ·cases hc
 case callw f l => exact absurd rfl (hnw f l)
 all_goals
  have hc2 : cG P vm ss o.op _ = true := hc
  unfold cG at hc2
  rw [Bool.and_eq_true] at hc2
  exact still hc2.1 hc2.2 (by first | rfl | (exact absurd hc2.1 Bool.false_ne_true))
theorem gW (hT : HT P T) (h : FX F Iow w0 g0 o0 g w tmps vm ss s) (hnd : KU vm) (hd : DR vm ss o.dst D = some ss') (hfit : ∀ d, o.dst = some d → d < tmps.size) {f : Nat} {args : List CA} (hc : LK vm ss f args o.op = true)
  (hok : (GY T s key D ⟨args.all fun x => CQ true (rd s x), f, args.map (Ow s)⟩).ok = true)
  (hK : ∀ tmps' w' g', tmps'.size = tmps.size → FX F Iow w0 g0 o0 g' w' tmps' vm ss' (GY T s key D ⟨args.all fun x => CQ true (rd s x), f, args.map (Ow s)⟩) → K ⟨tmps', ds⟩ w') : o.upon P ⟨tmps, ds⟩ K Q ((execOp ({ tmps := tmps, defers := ds } : Act).eval o).run P w) := by
 have hall := (Jh hok).2
 have hall' : (args.all fun x => CQ true (rd s x)) = true := hall
 have e0 : args.map (Ow s) = args.map (rd (unS s)) := by
  simp only [List.all_eq_true] at hall'
  exact List.map_congr_left fun x hx => (TT (hall' x hx)).symm
 unfold LK at hc
 split at hc
 ·rename_i f' xs tys he
  simp only [Bool.and_eq_true, beq_iff_eq] at hc
  obtain ⟨rfl, hc⟩ := hc
  obtain ⟨e1, e2⟩ := Gg (ds := ds) h.toFR.unS hc
  rw [← e0] at e1 e2
  have hcr := Fs (P := P) (w := w) (o := o) (ρ := ({ tmps := tmps, defers := ds } : Act).eval) (f := f') (v1 := #[]) (v2 := #[]) rfl he
  rw [Array.empty_append, Array.append_empty] at hcr
  rw [hcr]
  exact Oz hT h hnd hd hfit (c := ⟨args.all fun x => CQ true (rd s x), f', args.map (Ow s)⟩) e1 e2 hok hK
 ·cases hc
theorem OL (hT : HT P T) (h : FX F Iow w0 g0 o0 g w tmps vm ss s) (hnd : KU vm) (hn : tmps.size = n) (hc : XT P n ops vm ss o i = some ss') (hok : (CT T s i).ok = true)
  (hK : ∀ tmps' w' g', tmps'.size = n → FX F Iow w0 g0 o0 g' w' tmps' vm ss' (CT T s i) → K ⟨tmps', ds⟩ w') :
  if Region.wanted o (yielded ops (⟨tmps, ds⟩ : Act).tmps) then o.wp P ⟨tmps, ds⟩ w K Q else K ((⟨tmps, ds⟩ : Act).put o.dst undef) w := by
 have hcc : ∀ {c : Bool} {x : Option (List Nat)}, (bif c then x else none) = some ss' → c = true ∧ x = some ss' := by intro c x; cases c <;> simp
 unfold XT at hc
 obtain ⟨hb, hc⟩ := hcc hc
 ·simp only [Bool.and_eq_true] at hb
  obtain ⟨hb1, hb2, hb3⟩ := hb
  have hfit : ∀ d, o.dst = some d → d < tmps.size := fun d e => by rw [e] at hb1; simpa [bh, hn] using hb1
  cases hg : i.guard with
  | none =>
   rw [hg] at hb2 hb3
   have hog : o.guard = none := by
    revert hb2
    cases o.guard with
    | none => intro _; rfl
    | some q => intro hb2; simp [Xa] at hb2
   rw [if_pos (by simp [Region.wanted, hog])]
   simp only [CT, Pa, hg] at hok hK
   exact WN hT h hnd hc hfit hb3 hok fun tmps' w' g' e hfx => hK tmps' w' g' (by rw [e, hn]) hfx
  | some gd =>
   obtain ⟨x, want⟩ := gd
   rw [hg] at hb2 hb3
   simp only [CT, Pa, hg] at hok hK
   cases hog : o.guard with
   | none => rw [hog] at hb2; simp [Xa] at hb2
   | some q =>
    obtain ⟨j, want'⟩ := q
    rw [hog] at hb2
    simp only [Xa, Bool.and_eq_true, beq_iff_eq] at hb2
    obtain ⟨rfl, hb2⟩ := hb2
    split at hb2
    ·rename_i t ht
     have h' := h.setOk (s.ok && LB (rd s x))
     have hgo : LB (rd s x) = true := by
      have := Yf hok
      simp at this; exact this.2
     have hw : Region.wanted o (yielded ops tmps) = Yl want' (rd s x) := by
      unfold Region.wanted
      rw [hog]
      exact dO h.toFR ht hb2 hgo want'
     have hw' : Region.wanted o (yielded ops (⟨tmps, ds⟩ : Act).tmps) = Yl want' (rd s x) := hw
     rw [hw']
     cases hv : Yl want' (rd s x) with
     | true =>
      rw [hv] at hok hK
      rw [if_pos rfl]
      by_cases hw : ∃ f l, i.op = .callw f l
      ·obtain ⟨f, l, ew⟩ := hw
       rw [ew] at hok hK hb3
       simp only [Hp, aD, if_true] at hok hK
       exact gW hT h' hnd hc hfit hb3 hok fun tmps' w' g' e hfx => hK tmps' w' g' (by rw [e, hn]) hfx
      ·have hnw : ∀ f l, i.op ≠ .callw f l := fun f l e => hw ⟨f, l, e⟩
       have e1 : Hp T { s with ok := s.ok && LB (rd s x) } i.key i.dst true i.op = Iz { s with ok := s.ok && LB (rd s x) } true i.dst (CW T { s with ok := s.ok && LB (rd s x) } true i.key i.op) := by
        unfold Hp
        split
        ·rename_i f l e; exact absurd e (hnw f l)
        ·rfl
       rw [e1] at hok hK
       exact gX hT h' hnd hc hfit hb3 hnw hok fun tmps' w' g' e hfx => hK tmps' w' g' (by rw [e, hn]) hfx
     | false =>
      rw [hv] at hok hK
      rw [if_neg (by simp), Jw]
      have e1 : ∃ m, Hp T { s with ok := s.ok && LB (rd s x) } i.key i.dst false i.op = Iz { s with ok := s.ok && LB (rd s x) } false i.dst m := by
       unfold Hp
       split
       ·exact ⟨Ca .any, by simp [aD]⟩
       ·exact ⟨_, rfl⟩
      obtain ⟨m, e1⟩ := e1
      rw [e1] at hK
      exact hK _ _ _ (by rw [Gb, hn]) (h'.guardSkip hnd hc hfit)
    ·exact absurd hb2 Bool.false_ne_true
theorem PS (hT : HT P T) (hnd : KU vm) : ∀ (os : List Oper) (is : List Hx) {ss : List Nat} {s : St} {g : Gh} {w : World} {tmps : Array Value}, FX F Iow w0 g0 o0 g w tmps vm ss s → tmps.size = n → Iq P n ops vm ss os is = some ss' → (EF T is s).ok = true →
  (∀ tmps' w' g', tmps'.size = n → FX F Iow w0 g0 o0 g' w' tmps' vm ss' (EF T is s) → Q .normal ⟨tmps', ds⟩ w') → wpList P ops Q os ⟨tmps, ds⟩ w
 | [], [], ss, s, g, w, tmps, h, hn, hc, hok, hK => by
  simp only [Iq, Option.some.injEq] at hc
  subst hc
  exact hK _ _ _ hn h
 | [], _ :: _, _, _, _, _, _, _, _, hc, _, _ => by simp [Iq] at hc
 | _ :: _, [], _, _, _, _, _, _, _, hc, _, _ => by simp [Iq] at hc
 | o :: os, i :: is, ss, s, g, w, tmps, h, hn, hc, hok, hK => by
  simp only [Iq] at hc
  split at hc
  ·rename_i ss1 hc1
   refine wpList_step fun K hKK => ?_
   exact OL hT h hnd hn hc1 (IG is hok) fun tmps' w' g' e hfx => hKK _ _ (PS hT hnd os is hfx e hc hok hK)
  ·cases hc
end
end Go.Proofs.YthdmeanbdohehaaGreatDoor
