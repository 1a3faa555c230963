/- What typed forms say: HexOf and SumOfBytes in both programs. No condition. -/
import Derived.Test.YtcfjogkgmkagiaaBYT
import Derived.Test.YtcfjogkgmkagiaaEngTD
namespace Go.Proofs.Ytcfjogkgmkagiaa
open Go Go.RowKit
set_option linter.unusedSimpArgs false
set_option linter.unusedVariables false

/-- the two digits of a byte -/
def hxA (c : UInt8) : UInt8 := ([48, 49, 50, 51, 52, 53, 54, 55, 56, 57, 97, 98, 99, 100, 101, 102] : List UInt8).getD (IntKind.u8.wrap ((c.toNat : Int).tdiv 16)).toNat 0
def hxB (c : UInt8) : UInt8 := ([48, 49, 50, 51, 52, 53, 54, 55, 56, 57, 97, 98, 99, 100, 101, 102] : List UInt8).getD ((c.toNat : Int).tmod 16).toNat 0
/-- the text of bytes -/
def hexP : List UInt8 → List UInt8
  | [] => []
  | c :: r => hxA c :: hxB c :: hexP r

theorem hexP_append (a b : List UInt8) : hexP (a ++ b) = hexP a ++ hexP b := by
  induction a with
  | nil => rfl
  | cons c r ih => simp only [List.cons_append, hexP, ih]
theorem hexP_len (a : List UInt8) : (hexP a).length = 2 * a.length := by
  induction a with
  | nil => rfl
  | cons c r ih => simp only [hexP, List.length_cons, ih]; omega
theorem hexP_take {b : List UInt8} {i : Nat} (hi : i < b.length) : hexP (b.take (i + 1)) = hexP (b.take i) ++ [hxA (b.getD i default), hxB (b.getD i default)] := by
  rw [List.take_add_one, List.getElem?_eq_getElem hi, hexP_append, List.getD_eq_getElem?_getD, List.getElem?_eq_getElem hi]
  rfl

theorem hx_okA (c : UInt8) : ixOk (IntKind.u8.wrap ((c.toNat : Int).tdiv 16)) 16 = true := by
  have hc := c.toNat_lt
  rw [Int.tdiv_eq_ediv_of_nonneg (by omega), wrap_u8 (by omega) (by omega)]
  exact ixOk_of (by omega) (by omega)
theorem hx_okB (c : UInt8) : ixOk ((c.toNat : Int).tmod 16) 16 = true := by
  have hc := c.toNat_lt
  rw [Int.tmod_eq_emod_of_nonneg (by omega)]
  exact ixOk_of (by omega) (by omega)

theorem impl_HexOf_is (b : List UInt8) : impl_HexOf b = some (if 8000 < b.length then ([], 5) else (hexP b, 0)) := by
  unfold impl_HexOf
  by_cases h : 8000 < b.length
  · rw [if_pos (by simp only [decide_eq_true_eq]; omega), if_pos h]
  · rw [if_neg (by simp only [decide_eq_true_eq]; omega), if_neg h]
    have hh : whileE (impl_HexOf_l1 b (b.length : Int)) (([] : List UInt8), 0) = some (hexP b) := by
      have := while_up (step := impl_HexOf_l1 b (b.length : Int)) (fun i => hexP (b.take i)) b.length (r := hexP b) ?_ ?_
      · simpa [hexP] using this
      · intro i hi
        have hl : (hexP (b.take i)).length ≤ 2 * i := by rw [hexP_len, List.length_take]; omega
        simp only [impl_HexOf_l1, Int.ofNat_lt, hi, decide_true, if_true, ixOk_nat, ck_true, Int.toNat_natCast, nz_of (show (16 : Int) ≠ 0 by decide), List.length_cons, List.length_nil, Nat.zero_add, Nat.reduceAdd, hx_okA, hx_okB, wrap_nat1 (show i < 9223372036854775807 by omega)]
        rw [appOk_of (by omega), ck_true, hexP_take hi]
        rfl
      · simp [impl_HexOf_l1]
    rw [hh]; rfl

theorem spec_HexOf_is (b : List UInt8) : spec_HexOf b = some (if 8000 < b.length then ([], 5) else (hexP b, 0)) := by
  unfold spec_HexOf
  by_cases h : 8000 < b.length
  · rw [if_pos (by simp only [decide_eq_true_eq]; omega), if_pos h]
  · rw [if_neg (by simp only [decide_eq_true_eq]; omega), if_neg h]
    have hh : whileE (spec_HexOf_l1 b) (([] : List UInt8), 0) = some (hexP b) := by
      have := while_up (step := spec_HexOf_l1 b) (fun i => hexP (b.take i)) b.length (r := hexP b) ?_ ?_
      · simpa [hexP] using this
      · intro i hi
        have hl : (hexP (b.take i)).length ≤ 2 * i := by rw [hexP_len, List.length_take]; omega
        simp only [spec_HexOf_l1, Int.ofNat_lt, hi, decide_true, if_true, ixOk_nat, ck_true, Int.toNat_natCast, nz_of (show (16 : Int) ≠ 0 by decide), List.length_append, List.length_cons, List.length_nil, Nat.zero_add, Nat.reduceAdd, hx_okA, hx_okB, wrap_nat1 (show i < 9223372036854775807 by omega)]
        rw [appOk_of (by omega), ck_true, appOk_of (by omega), ck_true, hexP_take hi, List.append_assoc]
        rfl
      · simp [spec_HexOf_l1]
    rw [hh]; rfl

theorem SumOfBytes_same (b : List UInt8) : impl_SumOfBytes b = spec_SumOfBytes b := by
  unfold impl_SumOfBytes spec_SumOfBytes spec_l25Sum
  have : impl_SumOfBytes_l1 b (b.length : Int) = spec_l25Sum_l1 b := rfl
  rw [this]
  cases whileE (spec_l25Sum_l1 b) (1, 0, 0) <;> rfl

end Go.Proofs.Ytcfjogkgmkagiaa
