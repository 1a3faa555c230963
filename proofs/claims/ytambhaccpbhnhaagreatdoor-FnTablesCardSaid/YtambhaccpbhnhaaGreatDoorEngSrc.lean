/- A call that writes a block of the caller's own, by the contract of the engine, as the kit's walk takes it. No condition. -/
import Derived.Test.YtambhaccpbhnhaaGreatDoorEngCall
namespace Go.Proofs.YtambhaccpbhnhaaGreatDoor
open Go Go.RowKit
set_option linter.unusedVariables false
set_option linter.unusedSimpArgs false

/-- The blocks that a walk owns: rb and those of O. -/
abbrev OwnS (rb : Nat) (O : Nat → Prop) : Nat → Prop := fun b => b = rb ∨ O b

theorem call_io {P : Program} {f : FuncId} {C : Ctr} {fu : Func} {c : Code} (hC : Sound P f C) (hf : P.funcs[f]? = some fu) (hb : fu.body = some c) (hn : (fu.name == "runtime.NumGoroutine") = false)
    {O : Nat → Prop} {rb cp sz : Nat} {e0 e1 : AV} {more : List AV} {vargs : Array Value} {w : World} (hsz : vargs.size = more.length + 1) (h0 : vargs.getD 0 undef = .pointer (some ⟨rb, 0, none⟩)) (hsh : shapes C.modes (.mem sz [e0] 0 :: more) = true) (hm : C.modes[0]? = some .io)
    (hbor : more.all (fun a => !isFM a) = true) (hv : ∀ j, j < more.length → VR (OwnS rb O) w (vargs.getD (j + 1) undef) (more.getD j .any)) (hH : Home (OwnS rb O) w rb cp sz [e0]) (hO : ∀ b, O b → b < w.heap.size) (hOr : ¬ O rb) (hgt : GT (OwnS rb O) w) {r : AV} {i : Nat} {outs : List AV}
    (hF : C.F (.mem sz [e0] 0 :: more) = ⟨true, r, .mem sz [e1] i :: outs⟩) (hr : flat1 r = true) : Calls P f vargs w fun e w' => ∃ v, e = .returned v ∧ Same (· = rb) w w' ∧ VR (fun _ => False) w' v r ∧ Home (OwnS rb O) w' rb cp sz [e1] ∧ GT (OwnS rb O) w' := by
  have hcp : 0 < cp := Nat.lt_of_lt_of_le (by simp) hH.len
  have hnofm : ∀ j, isFM (more.getD j .any) = false := by
    intro j
    simp only [List.all_eq_true, Bool.not_eq_true'] at hbor
    rw [List.getD_eq_getElem?_getD]
    cases hj : more[j]? with
    | none => rfl
    | some a => exact hbor a (List.mem_of_getElem? hj)
  have hob : ∀ k h, obGet k (initOb 0 (.mem sz [e0] 0 :: more)) = some h → k = paramKey 0 ∧ h = ⟨sz, [e0]⟩ := by
    intro k h hg
    obtain ⟨j, rfl, hf⟩ := initOb_key hg
    cases j with
    | zero => cases hf; exact ⟨rfl, rfl⟩
    | succ j =>
      rw [List.getD_cons_succ] at hf
      have := hnofm j
      revert hf this
      generalize more.getD j .any = x
      intro hf this
      cases x <;> simp [fmHm, isFM] at hf this
  have h00 : obGet (paramKey 0) (initOb 0 (.mem sz [e0] 0 :: more)) = some ⟨sz, [e0]⟩ := by rw [initOb_paramKey]; rfl
  have hlive : ∀ (k : Nat), liv (⟨fun _ => rb, fun _ => cp⟩ : Gh) (initOb 0 (.mem sz [e0] 0 :: more)) k → k = paramKey 0 := fun k ⟨⟨h, hg⟩, _⟩ => (hob k h hg).1
  have hset : ∀ b, SetOf O ⟨fun _ => rb, fun _ => cp⟩ (initOb 0 (.mem sz [e0] 0 :: more)) b → OwnS rb O b := by
    rintro b (h | ⟨k, _, e⟩)
    · exact .inr h
    · exact .inl e.symm
  have hset' : ∀ b, OwnS rb O b → SetOf O ⟨fun _ => rb, fun _ => cp⟩ (initOb 0 (.mem sz [e0] 0 :: more)) b := by
    rintro b (h | h)
    · exact .inr ⟨paramKey 0, ⟨⟨_, h00⟩, hcp⟩, h.symm⟩
    · exact .inl h
  have hfr : FR O ⟨fun _ => rb, fun _ => cp⟩ w vargs (List.range (AV.mem sz [e0] 0 :: more).length) [] (argSt (.mem sz [e0] 0 :: more)) := by
    refine ⟨fun k hm hg => ?_, fun k k' hk hk' _ => (hlive k hk).trans (hlive k' hk').symm, fun k hk => hOr, hO, by simp [argSt, initTm_len], rfl, fun j hj => ?_, fun j hj => by simp at hj, fun t ht => ?_, hgt.mono (Same.refl _ _) fun b _ hb => hset b hb⟩
    · obtain ⟨rfl, rfl⟩ := hob k hm hg
      exact hH.mono (Same.refl _ _) (fun _ => rfl) fun b _ c => hset b c
    · have hj' : j < (AV.mem sz [e0] 0 :: more).length := by simpa using hj
      have e1 : (List.range (AV.mem sz [e0] 0 :: more).length).getD j 0 = j := by rw [List.getD_eq_getElem?_getD, List.getElem?_range hj']; rfl
      rw [e1]
      simp only [argSt]
      rw [initTm_get _ 0 j hj', Nat.zero_add]
      cases j with
      | zero => exact ⟨_, h00, by simp, by rw [h0]; simp⟩
      | succ j =>
        have hjm : j < more.length := by simpa using hj'
        rw [List.getD_cons_succ]
        have e2 : initA (j + 1) (more.getD j .any) = more.getD j .any := by
          have := hnofm j
          revert this
          generalize more.getD j .any = x
          intro this
          cases x <;> first | rfl | (simp [isFM] at this)
        rw [e2]
        exact ((hv j hjm).mono (Same.refl _ _) fun b _ hb => hset b hb).toSR
    · rcases ht with ht | ht
      · have := List.mem_range.1 ht; simp at this; omega
      · simp at ht
  have h := (hC.2 _ _ w (.mem sz [e0] 0 :: more) vargs hsh (by simpa using hsz) hfr (by rw [hF])).2
  rw [hF] at h
  unfold Invokes at h
  rw [run_callFunc hf hb hn] at h
  refine Calls.mono h fun e w' he => ?_
  obtain ⟨v, g, ob, κ, rfl, B⟩ := he
  have hsame : Same (· = rb) w w' := B.same.mono fun b _ ⟨k, hk, e⟩ => e.symm
  obtain ⟨sz', e', els, hin, hlen, hg, hβ, hcap⟩ := B.out 0 hm
  have hβ : g.β (paramKey 0) = rb := hβ
  have hcap : g.cap (paramKey 0) = cp := hcap
  obtain ⟨rfl, rfl⟩ : sz' = sz ∧ els = [e1] := by
    rcases hin with ⟨h, _⟩ | ⟨_, _, h1, h2⟩
    · cases h
    · cases h1; cases h2; exact ⟨rfl, rfl⟩
  have hhome := B.home _ _ hg
  rw [hβ, hcap] at hhome
  have hsub : ∀ b, OwnS rb O b → SetOf O g ob b := by
    rintro b (h | h)
    · exact .inr ⟨paramKey 0, ⟨⟨_, hg⟩, by rw [hcap]; exact hcp⟩, by rw [hβ]; exact h.symm⟩
    · exact .inl h
  refine ⟨v, rfl, hsame, ?_, hhome.mono (Same.refl _ _) (fun _ => rfl) fun b _ c => hsub b c, hgt.mono (hsame.mono fun b _ c => .inl c) fun _ _ c => c⟩
  have hval := B.val
  revert hval
  cases r <;> first | (intro hval; exact flat1_VR rfl hval) | (simp [flat1] at hr)

end Go.Proofs.YtambhaccpbhnhaaGreatDoor
