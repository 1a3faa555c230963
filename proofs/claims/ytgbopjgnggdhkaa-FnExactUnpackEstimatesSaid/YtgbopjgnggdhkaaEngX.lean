/- A function's small form is sound. No condition. -/
import Derived.Test.YtgbopjgnggdhkaaEngW
namespace Go.Proofs.Ytgbopjgnggdhkaa
open Go Go.RowKit
set_option linter.unusedSimpArgs false
set_option linter.unusedVariables false

theorem run_callFunc {P : Program} {f : FuncId} {fu : Func} {c : Code} (hf : P.funcs[f]? = some fu) (hb : fu.body = some c) (hn : (fu.name == "runtime.NumGoroutine") = false) (args : Array Value) (w : World) :
    (callFunc f args).run P w = .ok (.enter f args) w := by
  have hn' : ¬ fu.name = "runtime.NumGoroutine" := by simpa using hn
  simp [callFunc, hf, hb, hn']

theorem init_get {P : Program} {vm : List Nat} {np : Nat} (h : vm.take np = List.range np) {i : Nat} (hi : i < np) : vm.getD i 0 = i ∧ i < vm.length := by
  have hl : np ≤ vm.length := by
    have := congrArg List.length h
    simp at this; omega
  refine ⟨?_, by omega⟩
  have : (vm.take np)[i]? = some i := by rw [h]; exact List.getElem?_range hi
  rw [List.getElem?_take] at this
  simp only [hi, if_true] at this
  rw [List.getD_eq_getElem?_getD, this]; rfl

theorem packR_two {a b : AV} {r : List AV} : packR (a :: b :: r) = .tup (a :: b :: r) := rfl

/-- What the interpreter hands back is what is asked of a call. -/
theorem back_of {F : Nat → Prop} {g0 g : Gh} {w w' : World} {args : List AV} {modes : List Md} {tmps : Array Value} {vm : List Nat} {s : St} {ms : List Mk} {vs : List Value}
    (hsh : shapes modes args = true) (h : FX F (fun b => ∃ k, liv g0 (initOb 0 args) k ∧ g0.β k = b) w g0 (initOb 0 args) g w' tmps vm [] s) (hn : vs.length = ms.length)
    (hv : ∀ j, j < ms.length → SR (SetOf F g s.ob) w' g s.ob (vs.getD j undef) ((ms.map (·.v)).getD j .any)) (hok : (fin1 s modes args ms).ok = true) :
    Back F g0 args modes w (match vs with | [a] => a | _ => .tuple vs.toArray) w' (fin1 s modes args ms).r (fin1 s modes args ms).outs g s.ob (fun i => (((ms.map (·.v)).getD (i - 1) .any).key1).headD 0) := by
  simp only [fin1, Bool.and_eq_true] at hok ⊢
  obtain ⟨_, _, hgiven, hgive, hback⟩ := hok
  obtain ⟨hlen, hshg⟩ := shapes_get _ _ hsh
  generalize hrs : ms.map (·.v) = rs at hgiven hgive hv ⊢
  have hrl : rs.length = ms.length := by rw [← hrs]; simp
  simp only [givenOk, Bool.and_eq_true] at hgiven
  obtain ⟨hdis, hap⟩ := hgiven
  have hone : ∀ j, j < rs.length → RV1 (SetOf F g s.ob) w' g s.ob ((rs.getD j .any).key1.headD 0) (vs.getD j undef) (giveOne s.ob (rs.getD j .any)).v ∧ (isFr (giveOne s.ob (rs.getD j .any)).v = true → (rs.getD j .any).key1 = [(rs.getD j .any).key1.headD 0]) ∧
      (∀ cs, (giveOne s.ob (rs.getD j .any)).v ≠ .tup cs) := by
    intro j hj
    refine give_one (hv j (by omega)) ?_
    simp only [List.all_eq_true] at hgive
    refine hgive _ (List.mem_map.2 ⟨rs.getD j .any, ?_, rfl⟩)
    rw [List.getD_eq_getElem?_getD, List.getElem?_eq_getElem hj]; exact List.getElem_mem hj
  have hgl : ∀ j, j < rs.length → (((rs.map (giveOne s.ob)).map (·.v))).getD j .any = (giveOne s.ob (rs.getD j .any)).v := by
    intro j hj
    simp [List.getD_eq_getElem?_getD, List.getElem?_map, List.getElem?_eq_getElem hj]
  -- the places of the result that hold a block
  have hpos : ∀ i, fpos (packR ((rs.map (giveOne s.ob)).map (·.v))) i → i - 1 < rs.length ∧ isFr (giveOne s.ob (rs.getD (i - 1) .any)).v = true ∧ ((rs.length = 1 ∧ i = 0) ∨ (2 ≤ rs.length ∧ 1 ≤ i)) := by
    intro i hi
    match rs, hone, hgl, hi with
    | [], _, _, hi => simp [packR, fpos, isFr] at hi
    | [a], hone, _, hi =>
      have hnt := (hone 0 (by simp)).2.2
      simp only [List.map_cons, List.map_nil, packR, List.getD_cons_zero] at hi hnt
      revert hi hnt
      generalize hx : (giveOne s.ob a).v = x
      intro hi hnt
      have : i = 0 ∧ isFr x = true := by
        cases x <;> first | exact absurd rfl (hnt _) | exact hi
      obtain ⟨rfl, hf⟩ := this
      simp only [List.length_singleton, Nat.zero_sub, List.getD_cons_zero, hx]
      exact ⟨by omega, hf, by simp⟩
    | a :: b :: r, _, hgl, hi =>
      simp only [List.map_cons, packR_two, fpos] at hi
      obtain ⟨j, rfl, hj, hf⟩ := hi
      have hj' : j < (a :: b :: r).length := by simpa using hj
      have := hgl j hj'
      simp only [List.map_cons] at this
      rw [this] at hf
      exact ⟨by simpa using hj', by simpa using hf, .inr ⟨by simp, by omega⟩⟩
  refine ⟨h.same, h.home, h.inj, h.nF, h.hio, ?_, fun i j hi hj e => ?_, fun i j hi hj e => ?_, fun j hj => ?_⟩
  · match rs, vs, hone, hgl, hrl, hn with
    | [], [], _, _, _, _ => exact VR.cv
    | [a], [v], hone, _, _, _ =>
      have h1 := hone 0 (by simp)
      simp only [List.map_cons, List.map_nil, packR, List.getD_cons_zero] at h1 ⊢
      obtain ⟨h1, _, hnt⟩ := h1
      revert h1 hnt
      generalize (giveOne s.ob a).v = x
      intro h1 hnt
      cases x <;> first | exact absurd rfl (hnt _) | exact h1
    | a :: b :: r, v :: u :: vs, hone, hgl, hrl, hn =>
      simp only [List.map_cons, packR_two]
      refine ⟨_, rfl, by simp at hrl hn ⊢; omega, fun j hj => ?_⟩
      have hj' : j < (a :: b :: r).length := by simpa using hj
      have h1 := (hone j hj').1
      have h2 := hgl j hj'
      simp only [List.map_cons] at h2
      rw [h2, toArray_getD]
      exact h1
    | [], _ :: _, _, _, hrl, hn => simp at hrl hn; omega
    | [_], [], _, _, hrl, hn => simp at hrl hn; omega
    | [_], _ :: _ :: _, _, _, hrl, hn => simp at hrl hn; omega
    | _ :: _ :: _, [], _, _, hrl, hn => simp at hrl hn; omega
    | _ :: _ :: _, [_], _, _, hrl, hn => simp at hrl hn; omega
  · obtain ⟨a1, a2, a3⟩ := hpos i hi
    obtain ⟨b1, b2, b3⟩ := hpos j hj
    have k1 := (hone _ a1).2.1 a2
    have k2 := (hone _ b1).2.1 b2
    have e' : (rs.getD (i - 1) .any).key1.headD 0 = (rs.getD (j - 1) .any).key1.headD 0 := e
    have m1 : (rs.getD (i - 1) .any).key1.headD 0 ∈ (rs.getD (i - 1) .any).key1 := by rw [k1]; simp
    have m2 : (rs.getD (i - 1) .any).key1.headD 0 ∈ (rs.getD (j - 1) .any).key1 := by rw [e', k2]; simp
    have : i - 1 = j - 1 := by
      rcases Nat.lt_trichotomy (i - 1) (j - 1) with hlt | heq | hlt
      · exact (flat_ne rs _ _ hdis hlt b1 _ m1 m2).elim
      · exact heq
      · exact (flat_ne rs _ _ hdis hlt a1 _ m2 m1).elim
    omega
  · obtain ⟨a1, a2, _⟩ := hpos i hi
    have k1 := (hone _ a1).2.1 a2
    have m1 : (rs.getD (i - 1) .any).key1.headD 0 ∈ rs.flatMap AV.key1 := mem_flatMap_getD a1 (by rw [k1]; simp)
    have m2 := ioParams_mem modes 0 j hj
    rw [Nat.zero_add] at m2
    have e' : (rs.getD (i - 1) .any).key1.headD 0 = paramKey j := e
    rw [← e'] at m2
    exact apart_ne hap m1 m2
  · have hb := backL_get s.ob modes 0 args j hj hlen
    rw [Nat.zero_add] at hb
    have hbok : (backOne s.ob j (args.getD j .any) .io).ok = true := by
      simp only [List.all_eq_true] at hback
      exact hback _ (List.mem_of_getElem? hb)
    have hjl : j < args.length := by
      rcases Nat.lt_or_ge j args.length with h' | h'
      · exact h'
      · rw [List.getElem?_eq_none (by omega)] at hj; cases hj
    have hfm := (hshg j hjl).2.1 (by rw [List.getD_eq_getElem?_getD, hj]; rfl)
    simp only [backOne] at hbok hb
    cases ho : obGet (paramKey j) s.ob with
    | none => rw [ho] at hbok; simp [backHm, bad] at hbok
    | some hm =>
      rw [ho] at hbok hb
      simp only [backHm, when, beq_iff_eq] at hbok hb
      obtain ⟨h0, p1, p2, p3, p4⟩ := h.par (paramKey j) hm (by unfold paramKey; omega) ho
      rw [initOb_paramKey] at p1
      have hout : ((backL s.ob modes 0 args).map (·.v)).getD j .any = (bif isMem (args.getD j .any) then .mem hm.sz hm.els else .fresh hm.sz hm.els) := by
        rw [List.getD_eq_getElem?_getD, List.getElem?_map, hb]; rfl
      rw [hout]
      revert hfm p1 hbok
      generalize args.getD j .any = aj
      intro hfm hbok p1
      cases aj <;> simp only [isFM] at hfm <;> try (cases hfm; done)
      · rename_i sz e0
        have p1 := Option.some.inj p1
        subst p1
        have hbok : hm.els.length = e0.length := hbok
        have p2 : hm.sz = sz := p2
        obtain ⟨q1, q2⟩ := p4 hbok
        exact ⟨sz, e0, hm.els, .inl ⟨rfl, by simp [isMem, p2]⟩, hbok, by rw [← p2], q1, q2⟩
      · rename_i sz e0
        have p1 := Option.some.inj p1
        subst p1
        have hbok : hm.els.length = e0.length := hbok
        have p2 : hm.sz = sz := p2
        obtain ⟨q1, q2⟩ := p4 hbok
        exact ⟨sz, e0, hm.els, .inr ⟨rfl, by simp [isMem, p2]⟩, hbok, by rw [← p2], q1, q2⟩

theorem fn_sound {P : Program} {T : Tbl} {f : FuncId} {fn : AFn} {vm : List Nat} (hT : TSound P T) (hc : chkFn P f fn vm = true) (L : Nat) (modes : List Md) : Sound P f ⟨modes, false, fun args => runF T L fn modes args⟩ := by
  unfold Sound
  refine ⟨fun e => Bool.noConfusion e, fun F g0 w args vargs hsh hsz hfr hok => ⟨fun e => Bool.noConfusion e, ?_⟩⟩
  simp only at hsh hok ⊢
  unfold chkFn at hc
  split at hc
  · cases hc
  rename_i fu hf
  simp only [Bool.and_eq_true, Bool.not_eq_true'] at hc
  obtain ⟨hname, hc⟩ := hc
  split at hc
  · cases hc
  rename_i c hb
  simp only [Bool.and_eq_true, beq_iff_eq, decide_eq_true_eq, List.all_eq_true] at hc
  obtain ⟨hnd, hvl, hnp, htake, hfit, hr4, hres, hchk⟩ := hc
  unfold Invokes
  rw [run_callFunc hf hb hname]
  simp only [runF, chkR, Bool.and_eq_true, fits, beq_iff_eq] at hok ⊢
  obtain ⟨⟨_, hal, hml⟩, hfin⟩ := hok
  have hnp2 : fn.np ≤ fu.ntmps := by
    rcases Nat.eq_zero_or_pos fn.np with e | e
    · omega
    · obtain ⟨h1, h2⟩ := init_get (P := P) htake (i := fn.np - 1) (by omega)
      have := hfit (vm.getD (fn.np - 1) 0) (by rw [List.getD_eq_getElem?_getD, List.getElem?_eq_getElem h2]; exact List.getElem_mem h2)
      omega
  have hvs : vargs.size = fn.np := by rw [hsz, hal]
  -- the frame in which the body begins
  have htm : ∀ i, i < fn.np → (vargs ++ Array.replicate (fu.ntmps - vargs.size) undef).getD i undef = vargs.getD i undef := fun i hi => by
    rw [app_getD, if_pos (by omega)]
  have hfx : FX F (fun b => ∃ k, liv g0 (initOb 0 args) k ∧ g0.β k = b) w g0 (initOb 0 args) g0 w (vargs ++ Array.replicate (fu.ntmps - vargs.size) undef) vm [] (initSt fn.nv args) := by
    refine ⟨⟨hfr.home, hfr.inj, hfr.nF, hfr.fb, ?_, rfl, fun i hi => ?_, fun i hi => by simp at hi, fun t ht => ?_, hfr.tab⟩, Same.refl _ _, fun k hk => .inr ⟨k, hk, rfl⟩, fun b hb ⟨k, hk, e⟩ => hfr.nF k hk (by rw [e]; exact hb), fun k hm _ hg => ⟨hm, hg, rfl, Nat.le_refl _, fun _ => ⟨rfl, rfl⟩⟩⟩
    · simp only [initSt, List.length_append, initTm_len, List.length_replicate]; omega
    · simp only [initSt]
      rw [els_app_getD, initTm_len]
      by_cases hlt : i < args.length
      · rw [if_pos hlt]
        have h1 := hfr.vs i (by simpa using hlt)
        have e1 : (List.range args.length).getD i 0 = i := by rw [List.getD_eq_getElem?_getD, List.getElem?_range hlt]; rfl
        rw [e1] at h1
        rw [(init_get (P := P) htake (by omega)).1, htm i (by omega)]
        exact h1
      · rw [if_neg hlt]
        have : (List.replicate (fn.nv - args.length) AV.any).getD (i - args.length) .any = .any := by
          rw [List.getD_eq_getElem?_getD, List.getElem?_replicate]; split <;> rfl
        rw [this]; exact SR.any
    · rcases ht with ht | ht
      · have := hfit t ht
        simp; omega
      · simp at ht
  have hN : (vargs ++ Array.replicate (fu.ntmps - vargs.size) undef).size = fu.ntmps := by simp; omega
  refine calls_of_wp hf hb ?_
  generalize hE : exec T L fn.body (initSt fn.nv args) = r at hfin
  have hrok : r.2.ok = true := by
    obtain ⟨e, s'⟩ := r
    cases e <;> simp only [finish, fin1, Rs.bad, Bool.and_eq_true] at hfin
    · exact hfin.1
    · cases hfin
    · exact hfin.1
  refine exec_ok (T := T) (L := L) (ds := []) hT (nodupB_nodup hnd) c fn.body hchk hfx hN (by rw [hE]; exact hrok) fun tmps' w' g' hn' hfx' => ?_
  rw [hE] at hfx' ⊢
  have done : ∀ s', r.2 = s' → finish fn modes args r = fin1 s' modes args (fn.res.map (resOf s')) → ({ tmps := tmps', defers := [] } : Act).defers = [] ∧ ∃ v, (results fu tmps').run P w' = .ok v w' ∧
      ∃ v' g ob κ, Ending.returned v = Ending.returned v' ∧ Back F g0 args modes w v' w' (finish fn modes args r).r (finish fn modes args r).outs g ob κ := by
    intro s' e1 e2
    rw [e1] at hfx'
    rw [e2] at hfin ⊢
    have hallok : ((fn.res.map (resOf s')).all (·.ok)) = true := by
      simp only [fin1, Bool.and_eq_true] at hfin
      exact hfin.2.1
    obtain ⟨vs, n1, n2, hrun, hrel⟩ := res_list (P := P) hfx'.toFR fu.results.toList fn.res hres hallok
    have hB := back_of (ms := fn.res.map (resOf s')) (vs := vs) hsh hfx' (by simpa using n2) (fun j hj => hrel j (by simpa using hj)) hfin
    exact ⟨rfl, _, results_run hr4 (by simpa using n1) hrun, _, _, _, _, rfl, hB⟩
  obtain ⟨e, s'⟩ := r
  cases e
  · exact done s' rfl rfl
  · simp [finish, Rs.bad] at hfin
  · exact done s' rfl rfl

end Go.Proofs.Ytgbopjgnggdhkaa
