/- The plain law of ValuesOf. No condition. -/
import Derived.Test.YtgbopjgnggdhkabDoorPSumOfWhat
namespace Go.Proofs.YtgbopjgnggdhkabDoor
open Go Go.RowKit
set_option linter.unusedSimpArgs false
set_option linter.unusedVariables false

theorem specValues_loop {r : L27R} (what : List UInt8) (hl : r.list_.length ≤ 1048576) :
    whileE (spec_ValuesOf_l1 what r) ([], 0) = some (valsP (fun e => e.What == what) r.list_ r.list_.length) := by
  refine while_keep (step := spec_ValuesOf_l1 what r) (fun i => (r.list_.getD i default).What == what) (fun i => (r.list_.getD i default).Value) r.list_.length (fun out i hi ho => ?_) (by simp only [spec_ValuesOf_l1, Int.lt_irrefl, decide_false, Bool.false_eq_true, if_false]; rfl)
  simp only [spec_ValuesOf_l1, Int.ofNat_lt, hi, decide_true, if_true, ixOk_nat, ck_true, Int.toNat_natCast, wrap_nat1 (show i < 9223372036854775807 by omega)]
  rw [appOk_of (by simp; omega), ck_true]
  cases (r.list_.getD i default).What == what <;> rfl

theorem valuesV_is {es : List Entry} (what : List UInt8) (hl : es.length ≤ 1048576) :
    impl_valuesOf__impl_ValuesOf_c1 es what = some (valsP (fun e => e.What == what) es es.length) := by
  unfold impl_valuesOf__impl_ValuesOf_c1
  rw [while_keep (step := impl_valuesOf__impl_ValuesOf_c1_l1 what es (es.length : Int)) (fun i => (es.getD i default).What == what) (fun i => (es.getD i default).Value) es.length (fun out i hi ho => ?_) (by simp only [impl_valuesOf__impl_ValuesOf_c1_l1, Int.lt_irrefl, decide_false, Bool.false_eq_true, if_false]; rfl)]
  · rfl
  · simp only [impl_valuesOf__impl_ValuesOf_c1_l1, impl_ValuesOf_c1, Int.ofNat_lt, hi, decide_true, if_true, ixOk_nat, ck_true, Int.toNat_natCast, wrap_nat1 (show i < 9223372036854775807 by omega), Option.bind_some]
    rw [appOk_of (by simp; omega), ck_true]
    cases (es.getD i default).What == what <;> rfl

theorem ValuesOf_same {log what : List UInt8} (hl : log.length ≤ 1048576) : ∃ (l : List Int) (c : Int), spec_ValuesOf log what = some (l, c) ∧ impl_ValuesOf log what = some (l, c) ∧ l.length ≤ 4000 := by
  unfold spec_ValuesOf impl_ValuesOf
  obtain ⟨r, e1, hr⟩ := l27What_is (what := what) hl
  obtain ⟨es, e2, h1, h2⟩ := EntriesOf_is hl
  rw [e1, e2]
  simp only [Option.bind_some, impl_IsName_is]
  by_cases h : codeP log = 0
  · obtain rfl := h1 h
    obtain rfl := hr h
    obtain ⟨b1, b2, b3⟩ := code_ok h
    simp only [h, true_and, beq_self_eq_true, Bool.not_true, Bool.false_eq_true, if_false]
    cases hn : nameB what
    · exact ⟨_, _, rfl, rfl, by simp⟩
    · have hk := valsP_len (fun e => e.What == what) (logP log).1 (logP log).1.length
      have hs := specValues_loop (r := rOf log (logP log)) what (by show (logP log).1.length ≤ _; omega)
      refine ⟨valsP (fun e => e.What == what) (logP log).1 (logP log).1.length, 0, ?_, ?_, Nat.le_trans hk b3⟩
      · simp only [Bool.false_eq_true, Bool.true_eq_false, if_false, beq_self_eq_true, Bool.not_true]
        rw [hs]
        rfl
      · simp only [Bool.not_true, Bool.false_eq_true, if_false]
        rw [valuesV_is what (by omega)]
        rfl
  · have e0 : (codeP log == 0) = false := beq_eq_false_iff_ne.2 h
    simp only [e0, h, false_and, if_false, Bool.not_false, if_true]
    exact ⟨_, _, rfl, rfl, by simp⟩

theorem law_ValuesOf {aLog aWhat : List UInt8} : laws_FnExactValuesOf aLog aWhat = some true := by
  unfold laws_FnExactValuesOf
  by_cases h : 1048576 < (aLog.length : Int)
  · simp [h]
  · obtain ⟨l, c, e1, e2, hl⟩ := ValuesOf_same (log := aLog) (what := aWhat) (by omega)
    have hll : l.length ≤ 1099511627776 := by omega
    have h3 : ¬ (1 + ((1 : Nat) : Int) * (l.length : Int) < 0) := by omega
    simp only [h, decide_false, Bool.false_eq_true, if_false, Option.bind_some, e1, e2, eqInt64S_is hll, decide_true, beq_self_eq_true, Bool.not_true, Bool.or_self,
      markInt64S_is hll (show (1 : Int) ≤ 1 by decide) (by decide), heldInt64S_is hll (show (1 : Int) ≤ 1 by decide) (by decide), h3, ite_self]

end Go.Proofs.YtgbopjgnggdhkabDoor
