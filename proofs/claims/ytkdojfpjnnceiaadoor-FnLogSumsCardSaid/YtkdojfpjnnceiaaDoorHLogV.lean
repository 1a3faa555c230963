/- What typed forms say: values of entries that are wanted, and their sum. No condition. -/
import Derived.Test.YtkdojfpjnnceiaaDoorHLogE
namespace Go.Proofs.YtkdojfpjnnceiaaDoor
open Go Go.RowKit
set_option linter.unusedSimpArgs false
set_option linter.unusedVariables false

/-- The values of the first n entries that are wanted. -/
def valsP (p : Entry → Bool) (es : List Entry) (n : Nat) : List Int := keptTo (α := Int) (fun i => p (es.getD i default)) (fun i => (es.getD i default).Value) n

theorem valsP_succ (p : Entry → Bool) (es : List Entry) (n : Nat) : valsP p es (n + 1) = if p (es.getD n default) = true then valsP p es n ++ [(es.getD n default).Value] else valsP p es n := keptTo_succ _ _ _

theorem valsP_len (p : Entry → Bool) (es : List Entry) (n : Nat) : (valsP p es n).length ≤ n := keptTo_len _ _ _

def addF (l : List Int) : Int := l.foldl (fun a v => IntKind.i64.wrap (a + v)) 0

theorem addF_snoc (l : List Int) (v : Int) : addF (l ++ [v]) = IntKind.i64.wrap (addF l + v) := by unfold addF; rw [List.foldl_append]; rfl

theorem sum_is {l : List Int} (hl : l.length ≤ 1099511627776) : impl_sum l = some (addF l) := by
  unfold impl_sum
  have := while_up (step := impl_sum_l1 l (l.length : Int)) (fun i => addF (l.take i)) l.length (r := addF l) (fun i hi => by
    have e : addF (l.take (i + 1)) = IntKind.i64.wrap (addF (l.take i) + l.getD i default) := by
      rw [List.take_add_one, List.getElem?_eq_getElem hi, getD_lt hi]
      exact addF_snoc _ _
    simp only [impl_sum_l1, Int.ofNat_lt, hi, decide_true, if_true, ixOk_nat, ck_true, Int.toNat_natCast, wrap_nat1 (show i < 9223372036854775807 by omega), e]) (by simp [impl_sum_l1])
  rw [show whileE (impl_sum_l1 l (l.length : Int)) (0, 0) = _ from this]
  rfl

def wantB (what : List UInt8) (a b : Int) (e : Entry) : Bool := (e.What == what) && (decide (a ≤ e.Day) && decide (e.Day ≤ b))

theorem valuesS_is {es : List Entry} (what : List UInt8) (a b : Int) (hl : es.length ≤ 1048576) :
    impl_valuesOf__impl_SumOfWhat_c1 es what a b = some (valsP (wantB what a b) es es.length) := by
  unfold impl_valuesOf__impl_SumOfWhat_c1
  rw [while_keep (step := impl_valuesOf__impl_SumOfWhat_c1_l1 what a b es (es.length : Int)) (fun i => wantB what a b (es.getD i default)) (fun i => (es.getD i default).Value) es.length (fun out i hi ho => ?_) (by simp only [impl_valuesOf__impl_SumOfWhat_c1_l1, Int.lt_irrefl, decide_false, Bool.false_eq_true, if_false]; rfl)]
  · rfl
  · simp only [impl_valuesOf__impl_SumOfWhat_c1_l1, impl_SumOfWhat_c1, Int.ofNat_lt, hi, decide_true, if_true, ixOk_nat, ck_true, Int.toNat_natCast, wrap_nat1 (show i < 9223372036854775807 by omega), impl_in_is, Option.isSome_some, Bool.or_true, Option.getD_some, Option.bind_some]
    rw [appOk_of (by simp; omega)]
    cases hw : wantB what a b (es.getD i default)
    · unfold wantB at hw
      simp only [hw, Bool.false_eq_true, if_false]
    · unfold wantB at hw
      simp only [hw, if_true, ck_true]

theorem valuesV_is {es : List Entry} (what : List UInt8) (hl : es.length ≤ 1048576) :
    impl_valuesOf__impl_ValuesOf_c1 es what = some (valsP (fun e => e.What == what) es es.length) := by
  unfold impl_valuesOf__impl_ValuesOf_c1
  rw [while_keep (step := impl_valuesOf__impl_ValuesOf_c1_l1 what es (es.length : Int)) (fun i => (es.getD i default).What == what) (fun i => (es.getD i default).Value) es.length (fun out i hi ho => ?_) (by simp only [impl_valuesOf__impl_ValuesOf_c1_l1, Int.lt_irrefl, decide_false, Bool.false_eq_true, if_false]; rfl)]
  · rfl
  · simp only [impl_valuesOf__impl_ValuesOf_c1_l1, impl_ValuesOf_c1, Int.ofNat_lt, hi, decide_true, if_true, ixOk_nat, ck_true, Int.toNat_natCast, wrap_nat1 (show i < 9223372036854775807 by omega), Option.bind_some]
    rw [appOk_of (by simp; omega), ck_true]
    cases (es.getD i default).What == what <;> rfl

end Go.Proofs.YtkdojfpjnnceiaaDoor
