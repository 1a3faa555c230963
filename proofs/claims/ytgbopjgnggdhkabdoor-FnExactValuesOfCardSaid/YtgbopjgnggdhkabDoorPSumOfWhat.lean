/- The plain laws of SumOfWhat and ValuesOf. No condition. -/
import Derived.Test.YtgbopjgnggdhkabDoorHLogE
namespace Go.Proofs.YtgbopjgnggdhkabDoor
open Go Go.RowKit
set_option linter.unusedSimpArgs false
set_option linter.unusedVariables false

/-- The values of the first n entries that are wanted. -/
def valsP (p : Entry → Bool) (es : List Entry) (n : Nat) : List Int := keptTo (α := Int) (fun i => p (es.getD i default)) (fun i => (es.getD i default).Value) n

theorem valsP_succ (p : Entry → Bool) (es : List Entry) (n : Nat) : valsP p es (n + 1) = if p (es.getD n default) = true then valsP p es n ++ [(es.getD n default).Value] else valsP p es n := keptTo_succ _ _ _

theorem valsP_len (p : Entry → Bool) (es : List Entry) (n : Nat) : (valsP p es n).length ≤ n := keptTo_len _ _ _

def addF (l : List Int) : Int := l.foldl (fun a v => IntKind.i64.wrap (a + v)) 0

theorem addF_snoc (l : List Int) (v : Int) : addF (l ++ [v]) = IntKind.i64.wrap (addF l + v) := by unfold addF; rw [List.foldl_append]; rfl

theorem sum_is {l : List Int} (hl : l.length ≤ 1099511627776) : impl_sum l = some (addF l) := by
  unfold impl_sum
  have := while_up (step := impl_sum_l1 l (l.length : Int)) (fun i => addF (l.take i)) l.length (r := addF l) (fun i hi => by
    have e : addF (l.take (i + 1)) = IntKind.i64.wrap (addF (l.take i) + l.getD i default) := by
      rw [List.take_add_one, List.getElem?_eq_getElem hi, getD_lt hi]
      exact addF_snoc _ _
    simp only [impl_sum_l1, Int.ofNat_lt, hi, decide_true, if_true, ixOk_nat, ck_true, Int.toNat_natCast, wrap_nat1 (show i < 9223372036854775807 by omega), e]) (by simp [impl_sum_l1])
  rw [show whileE (impl_sum_l1 l (l.length : Int)) (0, 0) = _ from this]
  rfl

theorem l27What_is {log what : List UInt8} (hl : log.length ≤ 1048576) : ∃ r, spec_l27What log what = some (r, if codeP log = 0 ∧ nameB what = false then 2 else codeP log) ∧ (codeP log = 0 → r = rOf log (logP log)) := by
  unfold spec_l27What
  obtain ⟨r, e1, hr⟩ := l27Code_is hl
  rw [e1]
  simp only [Option.bind_some, spec_IsName_is, Option.isSome_some, Bool.or_true, ck_true, Option.getD_some]
  refine ⟨r, ?_, hr⟩
  by_cases h : codeP log = 0
  · have e0 : (codeP log == 0) = true := by rw [h]; rfl
    cases hn : nameB what
    · simp [e0, h]
    · simp [e0, h]
  · have e0 : (codeP log == 0) = false := beq_eq_false_iff_ne.2 h
    simp only [e0, Bool.false_and, Bool.false_eq_true, if_false, h, false_and]

def wantB (what : List UInt8) (a b : Int) (e : Entry) : Bool := (e.What == what) && (decide (a ≤ e.Day) && decide (e.Day ≤ b))

theorem specSum_loop {r : L27R} (what : List UInt8) (a b : Int) (hl : r.list_.length ≤ 1099511627776) :
    whileE (spec_SumOfWhat_l2 what a b r) (0, 0) = some (addF (valsP (wantB what a b) r.list_ r.list_.length)) := by
  refine while_up (step := spec_SumOfWhat_l2 what a b r) (fun i => addF (valsP (wantB what a b) r.list_ i)) r.list_.length (fun i hi => ?_) (by simp only [spec_SumOfWhat_l2, Int.lt_irrefl, decide_false, Bool.false_eq_true, if_false])
  simp only [spec_SumOfWhat_l2, Int.ofNat_lt, hi, decide_true, if_true, ixOk_nat, ck_true, Int.toNat_natCast, wrap_nat1 (show i < 9223372036854775807 by omega), spec_l00In_is, Option.isSome_some, Bool.or_true, Option.getD_some]
  rw [valsP_succ]
  cases hw : wantB what a b (r.list_.getD i default)
  · unfold wantB at hw
    simp only [hw, Bool.false_eq_true, if_false]
  · unfold wantB at hw
    simp only [hw, if_true, addF_snoc]

theorem valuesS_is {es : List Entry} (what : List UInt8) (a b : Int) (hl : es.length ≤ 1048576) :
    impl_valuesOf__impl_SumOfWhat_c1 es what a b = some (valsP (wantB what a b) es es.length) := by
  unfold impl_valuesOf__impl_SumOfWhat_c1
  rw [while_keep (step := impl_valuesOf__impl_SumOfWhat_c1_l1 what a b es (es.length : Int)) (fun i => wantB what a b (es.getD i default)) (fun i => (es.getD i default).Value) es.length (fun out i hi ho => ?_) (by simp only [impl_valuesOf__impl_SumOfWhat_c1_l1, Int.lt_irrefl, decide_false, Bool.false_eq_true, if_false]; rfl)]
  · rfl
  · simp only [impl_valuesOf__impl_SumOfWhat_c1_l1, impl_SumOfWhat_c1, Int.ofNat_lt, hi, decide_true, if_true, ixOk_nat, ck_true, Int.toNat_natCast, wrap_nat1 (show i < 9223372036854775807 by omega), impl_in_is, Option.isSome_some, Bool.or_true, Option.getD_some, Option.bind_some]
    rw [appOk_of (by simp; omega)]
    cases hw : wantB what a b (es.getD i default)
    · unfold wantB at hw
      simp only [hw, Bool.false_eq_true, if_false]
    · unfold wantB at hw
      simp only [hw, if_true, ck_true]

theorem SumOfWhat_same {log what : List UInt8} {a b : Int} (hl : log.length ≤ 1048576) : ∃ s c : Int, spec_SumOfWhat log what a b = some (s, c) ∧ impl_SumOfWhat log what a b = some (s, c) := by
  unfold spec_SumOfWhat impl_SumOfWhat
  obtain ⟨r, e1, hr⟩ := l27What_is (what := what) hl
  obtain ⟨es, e2, h1, h2⟩ := EntriesOf_is hl
  rw [e1, e2]
  simp only [Option.bind_some, spec_l27Day, spec_l00In_is, impl_IsName_is, impl_in_is, Option.isSome_some, Bool.or_true, ck_true, Option.getD_some]
  by_cases h : codeP log = 0
  · obtain rfl := h1 h
    obtain rfl := hr h
    obtain ⟨b1, b2, b3⟩ := code_ok h
    simp only [h, true_and, beq_self_eq_true, Bool.not_true, Bool.false_eq_true, if_false]
    cases hn : nameB what
    · exact ⟨_, _, rfl, rfl⟩
    · cases ha : (decide (0 ≤ a) && decide (a ≤ 100000))
      · exact ⟨_, _, rfl, rfl⟩
      · cases hb : (decide (0 ≤ b) && decide (b ≤ 100000))
        · exact ⟨_, _, rfl, rfl⟩
        · have hk := valsP_len (wantB what a b) (logP log).1 (logP log).1.length
          have hs := specSum_loop (r := rOf log (logP log)) what a b (by show (logP log).1.length ≤ _; omega)
          refine ⟨addF (valsP (wantB what a b) (logP log).1 (logP log).1.length), 0, ?_, ?_⟩
          · simp only [Bool.not_true, Bool.or_self, Bool.and_false, Bool.false_eq_true, if_false, beq_self_eq_true]
            rw [hs]
            rfl
          · simp only [Bool.not_true, Bool.or_self, Bool.false_eq_true, if_false]
            rw [valuesS_is what a b (by omega)]
            simp only [Option.bind_some]
            rw [sum_is (by omega)]
            rfl
  · have e0 : (codeP log == 0) = false := beq_eq_false_iff_ne.2 h
    simp only [e0, h, false_and, if_false, Bool.false_and, Bool.false_eq_true, Bool.not_false, if_true]
    exact ⟨_, _, rfl, rfl⟩

theorem law_SumOfWhat {aLog aWhat : List UInt8} {aFrom aTo : Int} : laws_FnExactSumOfWhat aLog aWhat aFrom aTo = some true := by
  unfold laws_FnExactSumOfWhat
  by_cases h : 1048576 < (aLog.length : Int)
  · simp [h]
  · obtain ⟨r, c, e1, e2⟩ := SumOfWhat_same (log := aLog) (what := aWhat) (a := aFrom) (b := aTo) (by omega)
    simp only [h, decide_false, Option.bind_some, e1, e2, beq_self_eq_true, Bool.not_true, Bool.or_self, Bool.false_eq_true, if_false, ite_self]

end Go.Proofs.YtgbopjgnggdhkabDoor
