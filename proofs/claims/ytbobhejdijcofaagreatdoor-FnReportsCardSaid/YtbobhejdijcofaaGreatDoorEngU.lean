/- A statement: its operations one behind the other. No condition. -/
import Derived.Test.YtbobhejdijcofaaGreatDoorEngT
namespace Go.Proofs.YtbobhejdijcofaaGreatDoor
open Go Go.RowKit
set_option linter.unusedSimpArgs false
set_option linter.unusedVariables false

def cG (P : Program) (vm ss : List Nat) (op : Op) (a : AOp) : Bool := canGuard a && cStill P vm ss op a

/-- What may stand behind a guard. -/
def cOpG (P : Program) (vm ss : List Nat) (op : Op) (a : AOp) : Bool :=
  match a with
  | .call f args => cCall vm ss f args op
  | .callv f args => cCallv vm ss f args op
  | .callw f args => cCall vm ss f args op
  | .pick c a b => cPick vm ss c a b op
  | a => cG P vm ss op a

def cGuard (ops : Array Oper) (vm ss : List Nat) : Option (Nat × Bool) → Option (Src × Bool) → Bool
  | none, none => true
  | some (j, w), some (x, w') => w == w' && (match (ops[j]?).bind (·.dst) with
    | some t => chkSrc vm ss (.tmp t) x
    | none => false)
  | _, _ => false

def dstFits (n : Nat) : Option Nat → Bool
  | some d => decide (d < n)
  | none => true

def chkIns (P : Program) (n : Nat) (ops : Array Oper) (vm ss : List Nat) (o : Oper) (i : Ins) : Option (List Nat) :=
  bif dstFits n o.dst && (cGuard ops vm ss o.guard i.guard && (match i.guard with
    | none => cOp P vm ss i.dst o.op i.op
    | some _ => cOpG P vm ss o.op i.op)) then chkDst vm ss o.dst i.dst else none

def chkList (P : Program) (n : Nat) (ops : Array Oper) (vm : List Nat) : List Nat → List Oper → List Ins → Option (List Nat)
  | ss, [], [] => some ss
  | ss, o :: os, i :: is => match chkIns P n ops vm ss o i with
    | some ss' => chkList P n ops vm ss' os is
    | none => none
  | _, _, _ => none

section
variable {F Iow : Nat → Prop} {w0 : World} {g0 : Gh} {o0 : Obs} {g : Gh} {w w' : World} {tmps : Array Value} {ds : List Deferred} {vm ss ss' : List Nat} {s : St} {P : Program} {o : Oper} {key : Nat} {T : Tbl} {D : Dst}
  {K : Act → World → Prop} {Q : Exit → Act → World → Prop} {ops : Array Oper} {n : Nat} {i : Ins}

theorem guard_val (h : FR F g w tmps vm ss s) {j t : Nat} {x : Src} (hd : (ops[j]?).bind (·.dst) = some t) (hc : chkSrc vm ss (.tmp t) x = true) (hok : gdOk (rd s x) = true) (want : Bool) :
    (yielded ops tmps j == some want) = gdV want (rd s x) := by
  have hv := h.src (ds := []) hc
  have hfit : t < tmps.size := by
    have hm : ∀ {l : List Nat} {m : Nat}, l[m]? = some t → t ∈ l := fun h => List.mem_of_getElem? h
    cases x with
    | v m => simp only [chkSrc, beq_iff_eq] at hc; exact h.fit t (.inl (hm hc))
    | s m => simp only [chkSrc, beq_iff_eq] at hc; exact h.fit t (.inr (hm hc))
    | c a => simp [chkSrc] at hc
  have he : tmps[t]? = some (({ tmps := tmps, defers := [] } : Act).eval (.tmp t)) := by
    simp [Act.eval, Array.getD_eq_getD_getElem?, Array.getElem?_eq_getElem hfit]
  have hy : yielded ops tmps j = match ({ tmps := tmps, defers := [] } : Act).eval (.tmp t) with | .bool b => some b | _ => none := by
    unfold yielded
    rw [hd]
    simp only [Option.bind_some, he]
    cases (({ tmps := tmps, defers := [] } : Act).eval (.tmp t)) <;> rfl
  rw [hy]
  revert hok
  generalize rd s x = a at hv
  intro hok
  cases a <;> simp only [gdOk] at hok <;> try (cases hok; done)
  case bool b => rw [sr_bool hv]; cases b <;> cases want <;> rfl
  case opt c a =>
    cases c
    · simp only [SR, Bool.false_eq_true, if_false] at hv
      rw [hv]; cases want <;> rfl
    · simp only [Bool.not_true, Bool.false_or] at hok
      cases a <;> simp only [isBoolA] at hok <;> try (cases hok; done)
      rename_i b
      simp only [SR, if_true] at hv
      have := sr_bool (ob := s.ob) (g := g) (hv.toSR)
      rw [this]; cases want <;> cases b <;> rfl

/-- An operation behind a guard that holds. -/
theorem opG_step (hT : TSound P T) (h : FX F Iow w0 g0 o0 g w tmps vm ss s) (hnd : NdOk vm) (hd : chkDst vm ss o.dst D = some ss') (hfit : ∀ d, o.dst = some d → d < tmps.size) {a : AOp} (hc : cOpG P vm ss o.op a = true) (hnw : ∀ f l, a ≠ .callw f l) (hok : (putG s true D (guarded T s true key a)).ok = true)
    (hK : ∀ tmps' w' g', tmps'.size = tmps.size → FX F Iow w0 g0 o0 g' w' tmps' vm ss' (putG s true D (guarded T s true key a)) → K ⟨tmps', ds⟩ w') : o.upon P ⟨tmps, ds⟩ K Q ((execOp ({ tmps := tmps, defers := ds } : Act).eval o).run P w) := by
  obtain ⟨_, hm⟩ := putG_ok hok
  obtain ⟨hmok, hmhs, hml⟩ := hm rfl
  have fin : ∀ (v : Value) (w' : World), Same (fun _ => False) w w' → SR (SetOf F g s.ob) w' g s.ob v (guarded T s true key a).v → K (({ tmps := tmps, defers := ds } : Act).put o.dst v) w' := by
    intro v w' hw hv
    rw [put_eq]
    exact hK _ _ _ (putT_size _ _ _) (h.guardPut hnd hd hfit hw (fun _ _ => hv) hok)
  have hu := h.toFR.unS
  have ret : ∀ {m : Mk}, m.hs = [] → StillPost (SetOf F g s.ob) w g s.ob key m ((execOp ({ tmps := tmps, defers := ds } : Act).eval o).run P w) → m.v = (guarded T s true key a).v → o.upon P ⟨tmps, ds⟩ K Q ((execOp ({ tmps := tmps, defers := ds } : Act).eval o).run P w) := by
    intro m hh hp hv
    obtain ⟨v, w', hr, hw, hcase⟩ := hp
    rw [hr, Oper.upon_value]
    rcases hcase with ⟨_, hs⟩ | ⟨k, h', b, cap, e, _⟩
    · exact fin v w' hw (hv ▸ hs)
    · rw [hh] at e; cases e
  have retF : ∀ {m : Mk}, StillPost (SetOf F g s.ob) w g s.ob key m ((execOp ({ tmps := tmps, defers := ds } : Act).eval o).run P w) → (frzM m).v = (guarded T s true key a).v → o.upon P ⟨tmps, ds⟩ K Q ((execOp ({ tmps := tmps, defers := ds } : Act).eval o).run P w) := by
    intro m hp hv
    obtain ⟨v, w', hr, hw, hs⟩ := StillPost.frz h.toFR hp
    rw [hr, Oper.upon_value]
    exact fin v w' hw (hv ▸ hs)
  have still : canGuard a = true → cStill P vm ss o.op a = true → guarded T s true key a = also (canGuard a && (opsOf a).all fun x => optOk true (rd s x)) (frzM (stillOp (rdu s) s.ob key a)) → o.upon P ⟨tmps, ds⟩ K Q ((execOp ({ tmps := tmps, defers := ds } : Act).eval o).run P w) := by
    intro hg hc he
    rw [he] at hmok hmhs
    simp only [also, Bool.and_eq_true, List.all_eq_true] at hmok hmhs
    obtain ⟨⟨_, hall⟩, hsok⟩ := hmok
    have hcg : stillOp (rdu s) s.ob key a = stillOp (rd (unS s)) s.ob key a := stillOp_congr hg fun x hx => (rd_unS (hall x hx)).symm
    rw [hcg] at hsok
    exact retF (m := stillOp (rd (unS s)) s.ob key a) (still_ok (ds := ds) (key := key) hu hc hsok) (by rw [he, hcg]; rfl)
  have optall : ∀ {as : List Src}, (as.all fun x => optOk true (rd s x)) = true → as.map (rdu s) = as.map (rd (unS s)) := fun hall => by
    simp only [List.all_eq_true] at hall
    exact List.map_congr_left fun x hx => (rd_unS (hall x hx)).symm
  cases a
  case pick c x y =>
    simp only [cOpG] at hc
    simp only [guarded, also, Bool.and_eq_true] at hmok hmhs
    have hcv : SR (SetOf F g s.ob) w g s.ob (({ tmps := tmps, defers := ds } : Act).eval (match o.op with | .pick x _ _ => x | _ => .const undef)) (rdu s c) := by
      rw [← rd_unS hmok.1]
      unfold cPick at hc
      split at hc
      · rename_i p q z he
        simp only [Bool.and_eq_true] at hc
        rw [he]
        exact hu.src hc.1
      · cases hc
    exact ret (m := pickM true (rd s x) (rd s y) (rdu s c)) hmhs (s_pick (ds := ds) (key := key) h.toFR hc hcv hmok.2) rfl
  case call f args =>
    simp only [cOpG] at hc
    simp only [guarded, also, Bool.and_eq_true] at hmok hmhs hml fin
    unfold cCall at hc
    split at hc
    · rename_i f' xs tys he
      simp only [Bool.and_eq_true, beq_iff_eq] at hc
      obtain ⟨rfl, hc⟩ := hc
      rw [optall (by simpa [opsOf] using hmok.1)] at hmok hmhs hml fin
      obtain ⟨e1, e2⟩ := chkL_vals (ds := ds) hu hc
      have hcr := callee_run (P := P) (w := w) (o := o) (ρ := ({ tmps := tmps, defers := ds } : Act).eval) (f := f') (v1 := #[]) (v2 := #[]) rfl he
      rw [Array.empty_append, Array.append_empty] at hcr
      rw [hcr]
      have := step_callG (s := unS s) (c := ⟨true, f', args.map (rd (unS s))⟩) hT h.unS e1 e2 hmok.2 hml hmhs
      refine upon_invokes this (fun v w' hR => ?_) (fun c w' hR => ?_) (fun w' hR => ?_)
      · obtain ⟨v', e, hw, hv⟩ := hR; cases e; exact fin _ _ hw hv
      · obtain ⟨v', e, _⟩ := hR; cases e
      · obtain ⟨v', e, _⟩ := hR; cases e
    · cases hc
  case callv f args =>
    simp only [cOpG] at hc
    simp only [guarded, also, Bool.and_eq_true] at hmok hmhs hml fin
    unfold cCallv at hc
    split at hc
    · rename_i y xs tys he
      simp only [Bool.and_eq_true] at hc
      obtain ⟨hcf, hc⟩ := hc
      have hall : optOk true (rd s f) = true ∧ (args.all fun x => optOk true (rd s x)) = true := by
        simpa [opsOf] using hmok.1
      rw [optall hall.2, ← rd_unS hall.1] at hmok hmhs hml fin
      obtain ⟨e1, e2⟩ := chkL_vals (ds := ds) hu hc
      have hvf := hu.src (ds := ds) hcf
      have hcok : (calleeV (args.map (rd (unS s))) (rd (unS s) f)).ok = true := by
        have := hmok.2
        simp only [doCallG, also, Bool.and_eq_true] at this
        exact this.1
      obtain ⟨fid, a1, a2, ea, ecal⟩ := calleeV_inv hcok
      rw [ea] at hvf
      obtain ⟨v1, v2, ev, n1, n2, h1, h2⟩ := hvf
      rw [callee_run (P := P) (w := w) (ρ := ({ tmps := tmps, defers := ds } : Act).eval) ev he]
      rw [ecal] at hmok hmhs hml fin
      obtain ⟨q1, q2⟩ := callv_vals (w := w) (g := g) n1 e1 n2 (fun j hj => (h1 j hj).toSR) e2 (fun j hj => (h2 j hj).toSR)
      have := step_callG (s := unS s) (c := ⟨true, fid, a1 ++ args.map (rd (unS s)) ++ a2⟩) hT h.unS q1 q2 hmok.2 hml hmhs
      refine upon_invokes this (fun v w' hR => ?_) (fun c w' hR => ?_) (fun w' hR => ?_)
      · obtain ⟨v', e, hw, hv⟩ := hR; cases e; exact fin _ _ hw hv
      · obtain ⟨v', e, _⟩ := hR; cases e
      · obtain ⟨v', e, _⟩ := hR; cases e
    · cases hc
  case callw f l => exact absurd rfl (hnw f l)
  all_goals
    have hc2 : cG P vm ss o.op _ = true := hc
    unfold cG at hc2
    rw [Bool.and_eq_true] at hc2
    exact still hc2.1 hc2.2 (by first | rfl | (exact absurd hc2.1 Bool.false_ne_true))

/-- A call behind a guard that holds, which may write. -/
theorem opW_step (hT : TSound P T) (h : FX F Iow w0 g0 o0 g w tmps vm ss s) (hnd : NdOk vm) (hd : chkDst vm ss o.dst D = some ss') (hfit : ∀ d, o.dst = some d → d < tmps.size) {f : Nat} {args : List Src} (hc : cCall vm ss f args o.op = true)
    (hok : (doCall T s key D ⟨args.all fun x => optOk true (rd s x), f, args.map (rdu s)⟩).ok = true)
    (hK : ∀ tmps' w' g', tmps'.size = tmps.size → FX F Iow w0 g0 o0 g' w' tmps' vm ss' (doCall T s key D ⟨args.all fun x => optOk true (rd s x), f, args.map (rdu s)⟩) → K ⟨tmps', ds⟩ w') : o.upon P ⟨tmps, ds⟩ K Q ((execOp ({ tmps := tmps, defers := ds } : Act).eval o).run P w) := by
  have hall := (doCall_ok hok).2
  have hall' : (args.all fun x => optOk true (rd s x)) = true := hall
  have e0 : args.map (rdu s) = args.map (rd (unS s)) := by
    simp only [List.all_eq_true] at hall'
    exact List.map_congr_left fun x hx => (rd_unS (hall' x hx)).symm
  unfold cCall at hc
  split at hc
  · rename_i f' xs tys he
    simp only [Bool.and_eq_true, beq_iff_eq] at hc
    obtain ⟨rfl, hc⟩ := hc
    obtain ⟨e1, e2⟩ := chkL_vals (ds := ds) h.toFR.unS hc
    rw [← e0] at e1 e2
    have hcr := callee_run (P := P) (w := w) (o := o) (ρ := ({ tmps := tmps, defers := ds } : Act).eval) (f := f') (v1 := #[]) (v2 := #[]) rfl he
    rw [Array.empty_append, Array.append_empty] at hcr
    rw [hcr]
    exact step_call hT h hnd hd hfit (c := ⟨args.all fun x => optOk true (rd s x), f', args.map (rdu s)⟩) e1 e2 hok hK
  · cases hc

theorem ins_step (hT : TSound P T) (h : FX F Iow w0 g0 o0 g w tmps vm ss s) (hnd : NdOk vm) (hn : tmps.size = n) (hc : chkIns P n ops vm ss o i = some ss') (hok : (doIns T s i).ok = true)
    (hK : ∀ tmps' w' g', tmps'.size = n → FX F Iow w0 g0 o0 g' w' tmps' vm ss' (doIns T s i) → K ⟨tmps', ds⟩ w') :
    if Region.wanted o (yielded ops (⟨tmps, ds⟩ : Act).tmps) then o.wp P ⟨tmps, ds⟩ w K Q else K ((⟨tmps, ds⟩ : Act).put o.dst undef) w := by
  have hcc : ∀ {c : Bool} {x : Option (List Nat)}, (bif c then x else none) = some ss' → c = true ∧ x = some ss' := by intro c x; cases c <;> simp
  unfold chkIns at hc
  obtain ⟨hb, hc⟩ := hcc hc
  · simp only [Bool.and_eq_true] at hb
    obtain ⟨hb1, hb2, hb3⟩ := hb
    have hfit : ∀ d, o.dst = some d → d < tmps.size := fun d e => by rw [e] at hb1; simpa [dstFits, hn] using hb1
    cases hg : i.guard with
    | none =>
      rw [hg] at hb2 hb3
      have hog : o.guard = none := by
        revert hb2
        cases o.guard with
        | none => intro _; rfl
        | some q => intro hb2; simp [cGuard] at hb2
      rw [if_pos (by simp [Region.wanted, hog])]
      simp only [doIns, insG, hg] at hok hK
      exact op_step hT h hnd hc hfit hb3 hok fun tmps' w' g' e hfx => hK tmps' w' g' (by rw [e, hn]) hfx
    | some gd =>
      obtain ⟨x, want⟩ := gd
      rw [hg] at hb2 hb3
      simp only [doIns, insG, hg] at hok hK
      cases hog : o.guard with
      | none => rw [hog] at hb2; simp [cGuard] at hb2
      | some q =>
        obtain ⟨j, want'⟩ := q
        rw [hog] at hb2
        simp only [cGuard, Bool.and_eq_true, beq_iff_eq] at hb2
        obtain ⟨rfl, hb2⟩ := hb2
        split at hb2
        · rename_i t ht
          have h' := h.setOk (s.ok && gdOk (rd s x))
          have hgo : gdOk (rd s x) = true := by
            have := insGG_ok hok
            simp at this; exact this.2
          have hw : Region.wanted o (yielded ops tmps) = gdV want' (rd s x) := by
            unfold Region.wanted
            rw [hog]
            exact guard_val h.toFR ht hb2 hgo want'
          have hw' : Region.wanted o (yielded ops (⟨tmps, ds⟩ : Act).tmps) = gdV want' (rd s x) := hw
          rw [hw']
          cases hv : gdV want' (rd s x) with
          | true =>
            rw [hv] at hok hK
            rw [if_pos rfl]
            by_cases hw : ∃ f l, i.op = .callw f l
            · obtain ⟨f, l, ew⟩ := hw
              rw [ew] at hok hK hb3
              simp only [insGG, insW, if_true] at hok hK
              exact opW_step hT h' hnd hc hfit hb3 hok fun tmps' w' g' e hfx => hK tmps' w' g' (by rw [e, hn]) hfx
            · have hnw : ∀ f l, i.op ≠ .callw f l := fun f l e => hw ⟨f, l, e⟩
              have e1 : insGG T { s with ok := s.ok && gdOk (rd s x) } i.key i.dst true i.op = putG { s with ok := s.ok && gdOk (rd s x) } true i.dst (guarded T { s with ok := s.ok && gdOk (rd s x) } true i.key i.op) := by
                unfold insGG
                split
                · rename_i f l e; exact absurd e (hnw f l)
                · rfl
              rw [e1] at hok hK
              exact opG_step hT h' hnd hc hfit hb3 hnw hok fun tmps' w' g' e hfx => hK tmps' w' g' (by rw [e, hn]) hfx
          | false =>
            rw [hv] at hok hK
            rw [if_neg (by simp), put_eq]
            have e1 : ∃ m, insGG T { s with ok := s.ok && gdOk (rd s x) } i.key i.dst false i.op = putG { s with ok := s.ok && gdOk (rd s x) } false i.dst m := by
              unfold insGG
              split
              · exact ⟨just .any, by simp [insW]⟩
              · exact ⟨_, rfl⟩
            obtain ⟨m, e1⟩ := e1
            rw [e1] at hK
            exact hK _ _ _ (by rw [putT_size, hn]) (h'.guardSkip hnd hc hfit)
        · exact absurd hb2 Bool.false_ne_true

theorem list_step (hT : TSound P T) (hnd : NdOk vm) : ∀ (os : List Oper) (is : List Ins) {ss : List Nat} {s : St} {g : Gh} {w : World} {tmps : Array Value}, FX F Iow w0 g0 o0 g w tmps vm ss s → tmps.size = n → chkList P n ops vm ss os is = some ss' → (doList T is s).ok = true →
    (∀ tmps' w' g', tmps'.size = n → FX F Iow w0 g0 o0 g' w' tmps' vm ss' (doList T is s) → Q .normal ⟨tmps', ds⟩ w') → wpList P ops Q os ⟨tmps, ds⟩ w
  | [], [], ss, s, g, w, tmps, h, hn, hc, hok, hK => by
    simp only [chkList, Option.some.injEq] at hc
    subst hc
    exact hK _ _ _ hn h
  | [], _ :: _, _, _, _, _, _, _, _, hc, _, _ => by simp [chkList] at hc
  | _ :: _, [], _, _, _, _, _, _, _, hc, _, _ => by simp [chkList] at hc
  | o :: os, i :: is, ss, s, g, w, tmps, h, hn, hc, hok, hK => by
    simp only [chkList] at hc
    split at hc
    · rename_i ss1 hc1
      refine wpList_step fun K hKK => ?_
      exact ins_step hT h hnd hn hc1 (doList_ok is hok) fun tmps' w' g' e hfx => hKK _ _ (list_step hT hnd os is hfx e hc hok hK)
    · cases hc

end
end Go.Proofs.YtbobhejdijcofaaGreatDoor
