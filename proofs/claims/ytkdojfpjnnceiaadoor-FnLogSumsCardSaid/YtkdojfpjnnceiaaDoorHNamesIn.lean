/- What typed forms say: the names that stand in a list of entries. No condition. -/
import Derived.Test.YtkdojfpjnnceiaaDoorHLogE
namespace Go.Proofs.YtkdojfpjnnceiaaDoor
open Go Go.RowKit
set_option linter.unusedSimpArgs false
set_option linter.unusedVariables false

theorem Contains_is {l : List (List UInt8)} (hl : l.length ≤ 1099511627776) (x : List UInt8) : slices_Contains_string_string l x = some (l.any fun y => y == x) := by
  unfold slices_Contains_string_string slices_Index_string_string
  rw [while_find (step := slices_Index_string_string_l1 l x (l.length : Int)) (fun k => l.getD k default == x) (fun k => (k : Int)) l.length
    (fun k hk => by
      have e : (x == l.getD k default) = (l.getD k default == x) := by rw [Bool.eq_iff_iff]; simp only [beq_iff_eq]; exact eq_comm
      simp only [slices_Index_string_string_l1, ixOk_nat, hk, decide_true, ck_true, Int.ofNat_lt, if_true, Int.toNat_natCast, wrap_nat1 (show k < 9223372036854775807 by omega), e]
      cases (l.getD k default == x) <;> rfl)
    (by simp [slices_Index_string_string_l1])]
  rw [← find_any l (fun y => y == x)]
  cases (List.range l.length).find? (fun k => l.getD k default == x) with
  | none => rfl
  | some j => simp

/-- The names of the first n entries, each once. -/
def namesP (es : List Entry) : Nat → List (List UInt8)
  | 0 => []
  | n + 1 => if ((namesP es n).any fun y => y == (es.getD n default).What) = true then namesP es n else namesP es n ++ [(es.getD n default).What]

theorem namesP_len (es : List Entry) : ∀ n : Nat, (namesP es n).length ≤ n
  | 0 => Nat.le_refl _
  | n + 1 => by
    have := namesP_len es n
    unfold namesP
    split
    · omega
    · simp; omega

theorem implNames_loop {es : List Entry} (hl : es.length ≤ 1048576) : whileE (impl_NamesIn_l1 es (es.length : Int)) ([], 0) = some (namesP es es.length) := by
  refine while_up (step := impl_NamesIn_l1 es (es.length : Int)) (fun i => namesP es i) es.length (fun i hi => ?_) (by simp only [impl_NamesIn_l1, Int.lt_irrefl, decide_false, Bool.false_eq_true, if_false])
  have hn := namesP_len es i
  simp only [impl_NamesIn_l1, Int.ofNat_lt, hi, decide_true, if_true, ixOk_nat, ck_true, Int.toNat_natCast, wrap_nat1 (show i < 9223372036854775807 by omega)]
  rw [Contains_is (by omega)]
  simp only [Option.bind_some]
  rw [namesP]
  cases (namesP es i).any fun y => y == (es.getD i default).What
  · simp only [Bool.not_false, if_true, Bool.false_eq_true, if_false]
    rw [appOk_of (by simp; omega), ck_true]
  · simp only [Bool.not_true, if_true, Bool.false_eq_true, if_false]

end Go.Proofs.YtkdojfpjnnceiaaDoor
