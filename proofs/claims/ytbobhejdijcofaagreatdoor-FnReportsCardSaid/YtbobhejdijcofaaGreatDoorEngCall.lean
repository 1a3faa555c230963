/- A call by the contract of the engine, as the kit's walk takes it: the value that comes back reads as the contract says, and nothing that was there has changed. No condition. -/
import Derived.Test.YtbobhejdijcofaaGreatDoorEngSI
import Derived.WalkKit
import Derived.Lib.Hide
namespace Go.Proofs.YtbobhejdijcofaaGreatDoor
open Go Go.RowKit
set_option linter.unusedVariables false
set_option linter.unusedSimpArgs false

theorem VR_of_RV1 {S : Nat → Prop} {w : World} {g : Gh} {ob : Obs} {k : Nat} {v : Value} {a : AV} (hf : isFr a = false) (h : RV1 S w g ob k v a) : VR S w v a := by
  cases a <;> first | exact h | (simp [isFr] at hf)

theorem call_frz {P : Program} {f : FuncId} {C : Ctr} {fu : Func} {c : Code} (hC : Sound P f C) (hf : P.funcs[f]? = some fu) (hb : fu.body = some c) (hn : (fu.name == "runtime.NumGoroutine") = false)
    {args : List AV} {vargs : Array Value} {w : World} (hsz : vargs.size = args.length) (hsh : shapes C.modes args = true) (hbor : args.all (fun a => !isFM a) = true) (hv : ∀ j, j < args.length → VR (fun _ => False) w (vargs.getD j undef) (args.getD j .any)) (hgt : GT (fun _ => False) w) {r : AV} {outs : List AV}
    (hF : C.F args = ⟨true, r, outs⟩) : Calls P f vargs w fun e w' => ∃ v, e = .returned v ∧ Same (fun _ => False) w w' ∧ VR (fun _ => False) w' v (frzRs r) := by
  have hnofm : ∀ j, isFM (args.getD j .any) = false := by
    intro j
    simp only [List.all_eq_true, Bool.not_eq_true'] at hbor
    rw [List.getD_eq_getElem?_getD]
    cases hj : args[j]? with
    | none => rfl
    | some a => exact hbor a (List.mem_of_getElem? hj)
  have hob : ∀ k, obGet k (initOb 0 args) = none := by
    intro k
    cases hg : obGet k (initOb 0 args) with
    | none => rfl
    | some hm =>
      obtain ⟨j, _, hf⟩ := initOb_key hg
      have := hnofm j
      revert hf this
      generalize args.getD j .any = x
      intro hf this
      cases x <;> simp [fmHm, isFM] at hf this
  have hno : ∀ k, ¬ inOb (initOb 0 args) k := fun k ⟨hm, hg⟩ => by rw [hob k] at hg; cases hg
  have hfr : FR (fun _ => False) ⟨fun _ => 0, fun _ => 0⟩ w vargs (List.range args.length) [] (argSt args) := by
    refine ⟨fun k hm hg => (hno k ⟨hm, hg⟩).elim, fun k _ hk => (hno k hk.1).elim, fun k hk => (hno k hk.1).elim, fun b hb => hb.elim, by simp [argSt, initTm_len], rfl, fun j hj => ?_, fun j hj => by simp at hj, fun t ht => ?_, hgt.mono (Same.refl _ _) fun b _ hb => ?_⟩
    · have hj' : j < args.length := by simpa using hj
      have e1 : (List.range args.length).getD j 0 = j := by rw [List.getD_eq_getElem?_getD, List.getElem?_range hj']; rfl
      rw [e1]
      simp only [argSt]
      rw [initTm_get _ 0 j hj', Nat.zero_add]
      have e2 : initA j (args.getD j .any) = args.getD j .any := by
        have := hnofm j
        revert this
        generalize args.getD j .any = x
        intro this
        cases x <;> first | rfl | (simp [isFM] at this)
      rw [e2]
      refine ((hv j hj').mono (Same.refl _ _) fun b _ hb => ?_).toSR
      rcases hb with hb | ⟨k, hk, _⟩
      · exact hb
      · exact hno k hk.1
    · rcases ht with ht | ht
      · have := List.mem_range.1 ht; omega
      · simp at ht
    · rcases hb with hb | ⟨k, hk, _⟩
      · exact hb
      · exact hno k hk.1
  have h := (hC.2 _ _ w args vargs hsh hsz hfr (by rw [hF])).2
  rw [hF] at h
  unfold Invokes at h
  rw [run_callFunc hf hb hn] at h
  refine Calls.mono h fun e w' he => ?_
  obtain ⟨v, g, ob, κ, rfl, B⟩ := he
  have hsame : Same (fun _ => False) w w' := B.same.mono fun b _ ⟨k, hk, _⟩ => (hno k hk.1).elim
  have hval := (back_frz B).val
  refine ⟨v, rfl, hsame, ?_⟩
  revert hval
  generalize frzRs_isNo : (frzRs r) = q
  have hno : ∀ i, ¬ fpos q i := fun i hi => frzRs_fpos (frzRs_isNo ▸ hi)
  generalize (obDels _ ob) = ob'
  intro hval
  have sub : ∀ {u : Value} {a : AV}, VR (SetOf (fun _ => False) g ob') w' u a → VR (fun _ => False) w' u a := fun h => h.mono (Same.refl _ _) fun _ _ c => c.elim
  cases q
  case tup cs =>
    obtain ⟨vs, rfl, hn, hall⟩ := hval
    refine .tup hn fun j hj => sub (VR_of_RV1 ?_ (hall j hj))
    cases hfj : isFr (cs.getD j .any) with
    | false => rfl
    | true => exact (hno (j + 1) ⟨j, rfl, hj, hfj⟩).elim
  all_goals
    refine sub (VR_of_RV1 (g := g) (ob := ob') (k := κ 0) ?_ hval)
    first | rfl | exact (hno 0 ⟨rfl, rfl⟩).elim

theorem sameOf {w W : World} (h : Below w.heap.size w W) : Same (fun _ => False) w W := ⟨h.os, h.tape, h.output, h.size, fun b hb _ => h.block b hb⟩
theorem below_of_same' {w w' : World} (h : Same (fun _ => False) w w') : Below w.heap.size w w' := ⟨h.os, h.tape, h.output, h.size, fun k hk => h.block k hk fun c => c⟩

end Go.Proofs.YtbobhejdijcofaaGreatDoor
