/- The plain law of NamesIn. No condition. -/
import Derived.Test.YtkdojfpjnnceiaaDoorHNamesIn
namespace Go.Proofs.YtkdojfpjnnceiaaDoor
open Go Go.RowKit
set_option linter.unusedSimpArgs false
set_option linter.unusedVariables false

theorem found_loop {r : L27R} {out : List (List UInt8)} {i : Nat} (hi : i < r.list_.length) (ho : out.length ≤ 1048576) :
    whileE (spec_NamesIn_l2 r out (i : Int)) (false, 0) = some (out.any fun y => y == (r.list_.getD i default).What) := by
  have := while_up (step := spec_NamesIn_l2 r out (i : Int)) (fun k => (out.take k).any fun y => y == (r.list_.getD i default).What) out.length (r := out.any fun y => y == (r.list_.getD i default).What) (fun k hk => by
    have e : ((out.take (k + 1)).any fun y => y == (r.list_.getD i default).What) = (((out.take k).any fun y => y == (r.list_.getD i default).What) || (out.getD k default == (r.list_.getD i default).What)) := by
      rw [List.take_add_one, List.getElem?_eq_getElem hk, getD_lt hk]
      simp only [Option.toList_some, List.any_append, List.any_cons, List.any_nil, Bool.or_false]
    simp only [spec_NamesIn_l2, Int.ofNat_lt, hk, hi, decide_true, if_true, ixOk_nat, Bool.or_true, ck_true, Int.toNat_natCast, wrap_nat1 (show k < 9223372036854775807 by omega), e]) (by simp [spec_NamesIn_l2])
  exact this

theorem specNames_loop {r : L27R} (hl : r.list_.length ≤ 1048576) : whileE (spec_NamesIn_l1 r) ([], 0) = some (namesP r.list_ r.list_.length) := by
  refine while_up (step := spec_NamesIn_l1 r) (fun i => namesP r.list_ i) r.list_.length (fun i hi => ?_) (by simp only [spec_NamesIn_l1, Int.lt_irrefl, decide_false, Bool.false_eq_true, if_false])
  have hn := namesP_len r.list_ i
  simp only [spec_NamesIn_l1, Int.ofNat_lt, hi, decide_true, if_true]
  rw [found_loop hi (by omega)]
  simp only [Option.bind_some, ixOk_nat, hi, decide_true, ck_true, Int.toNat_natCast, wrap_nat1 (show i < 9223372036854775807 by omega)]
  rw [namesP]
  cases (namesP r.list_ i).any fun y => y == (r.list_.getD i default).What
  · simp only [Bool.not_false, if_true, Bool.false_eq_true, if_false]
    rw [appOk_of (by simp; omega), ck_true]
  · simp only [Bool.not_true, if_true, Bool.false_eq_true, if_false]

theorem NamesIn_same {log : List UInt8} (hl : log.length ≤ 1048576) : ∃ (l : List (List UInt8)) (c : Int), spec_NamesIn log = some (l, c) ∧ impl_NamesIn log = some (l, c) ∧ l.length ≤ 4000 := by
  unfold spec_NamesIn impl_NamesIn
  obtain ⟨r, e1, hr⟩ := l27Code_is hl
  obtain ⟨es, e2, h1, h2⟩ := EntriesOf_is hl
  rw [e1, e2]
  simp only [Option.bind_some]
  by_cases h : codeP log = 0
  · obtain rfl := h1 h
    obtain rfl := hr h
    obtain ⟨b1, b2, b3⟩ := code_ok h
    have hn := namesP_len (logP log).1 (logP log).1.length
    have hs := specNames_loop (r := rOf log (logP log)) (by show (logP log).1.length ≤ _; omega)
    simp only [h, beq_self_eq_true, Bool.not_true, Bool.false_eq_true, if_false]
    rw [implNames_loop (by omega), hs]
    exact ⟨namesP (logP log).1 (logP log).1.length, 0, rfl, rfl, by omega⟩
  · have e0 : (codeP log == 0) = false := beq_eq_false_iff_ne.2 h
    simp only [e0, Bool.not_false, if_true]
    exact ⟨_, _, rfl, rfl, by simp⟩

theorem law_NamesIn {aLog : List UInt8} : laws_FnExactNamesIn aLog = some true := by
  unfold laws_FnExactNamesIn
  by_cases h : 1048576 < (aLog.length : Int)
  · simp [h]
  · obtain ⟨l, c, e1, e2, hl⟩ := NamesIn_same (log := aLog) (by omega)
    have hll : l.length ≤ 1099511627776 := by omega
    have h3 : ¬ (1 + ((1 : Nat) : Int) * (l.length : Int) < 0) := by omega
    simp only [h, decide_false, Bool.false_eq_true, if_false, Option.bind_some, e1, e2, eqStringS_is hll, decide_true, beq_self_eq_true, Bool.not_true, Bool.or_self,
      markStringS_is hll (show (1 : Int) ≤ 1 by decide) (by decide), heldStringS_is hll (show (1 : Int) ≤ 1 by decide) (by decide), h3]

end Go.Proofs.YtkdojfpjnnceiaaDoor
