/- What typed forms say: the kinds of faults of an estimate. No condition. -/
import Derived.Test.YthbnoddeifedkaaHObsF
import Derived.Test.YthbnoddeifedkaaHEst
namespace Go.Proofs.Ythbnoddeifedkaa
open Go Go.RowKit
set_option linter.unusedSimpArgs false
set_option linter.unusedVariables false

def findS (l : List Star) (n : List UInt8) : Option Nat := (List.range l.length).find? fun i => (l.getD i default).Name == n

theorem findS_lt {l : List Star} {n : List UInt8} {j : Nat} (h : findS l n = some j) : j < l.length := by
  have := List.mem_of_find?_eq_some h
  simpa using this

theorem l04Find_find {l : List Star} (hl : l.length ≤ 1099511627776) (n : List UInt8) : spec_l04Find l n = some (match findS l n with | some j => (j : Int) | none => -1) := by
  unfold spec_l04Find
  rw [while_find (step := spec_l04Find_l1 l n) (fun i => (l.getD i default).Name == n) (fun i => (i : Int)) l.length (fun i hi => by
    simp only [spec_l04Find_l1, ixOk_nat, hi, decide_true, ck_true, Int.ofNat_lt, if_true, Int.toNat_natCast, wrap_nat1 (show i < 9223372036854775807 by omega)]
    split <;> rfl) (by simp [spec_l04Find_l1])]
  show ((some (match findS l n with | some j => .inr (j : Int) | none => .inl ()) : Option (Unit ⊕ Int))).bind _ = _
  cases findS l n <;> rfl

theorem indexOf_find {l : List Star} (hl : l.length ≤ 1099511627776) (e : Estimate) : impl_indexOf_impl_Star__impl_kindsOf_c2 l e = some (match findS l e.Star with | some j => ((j : Int), 0) | none => (0, 3)) := by
  unfold impl_indexOf_impl_Star__impl_kindsOf_c2 slices_IndexFunc_impl_Star_impl_Star__impl_kindsOf_c2
  rw [while_find (step := slices_IndexFunc_impl_Star_impl_Star__impl_kindsOf_c2_l1 l e (l.length : Int)) (fun i => (l.getD i default).Name == e.Star) (fun i => (i : Int)) l.length (fun i hi => by
    simp only [slices_IndexFunc_impl_Star_impl_Star__impl_kindsOf_c2_l1, impl_kindsOf_c2, Option.bind_some, ixOk_nat, hi, decide_true, ck_true, Int.ofNat_lt, if_true, Int.toNat_natCast, wrap_nat1 (show i < 9223372036854775807 by omega)]
    split <;> rfl) (by simp [slices_IndexFunc_impl_Star_impl_Star__impl_kindsOf_c2_l1])]
  show ((((some (match findS l e.Star with | some j => .inr (j : Int) | none => .inl ()) : Option (Unit ⊕ Int))).bind _).bind _) = _
  cases h : findS l e.Star with
  | none => rfl
  | some j =>
    have : (0 : Int) ≤ (j : Int) := by omega
    simp [this]

def twinP (e x : Estimate) : Bool := ((x.Star == e.Star) && (x.Observer == e.Observer)) && (decide ((IntKind.i64.wrap (e.Time - x.Time)) < 100))

def twin (l : List Estimate) (e : Estimate) (i : Nat) : Bool := (List.range i).any fun j => twinP e (l.getD j default)

theorem contains_is {l : List Estimate} (hl : l.length ≤ 1099511627776) (e : Estimate) : slices_ContainsFunc_impl_Estimate_impl_Estimate__impl_kindsOf_c3 l e = some (twin l e l.length) := by
  unfold slices_ContainsFunc_impl_Estimate_impl_Estimate__impl_kindsOf_c3 slices_IndexFunc_impl_Estimate_impl_Estimate__impl_kindsOf_c3
  rw [while_find (step := slices_IndexFunc_impl_Estimate_impl_Estimate__impl_kindsOf_c3_l1 l e (l.length : Int)) (fun i => twinP e (l.getD i default)) (fun i => (i : Int)) l.length (fun i hi => by
    simp only [slices_IndexFunc_impl_Estimate_impl_Estimate__impl_kindsOf_c3_l1, impl_kindsOf_c3, Option.bind_some, ixOk_nat, hi, decide_true, ck_true, Int.ofNat_lt, if_true, Int.toNat_natCast, wrap_nat1 (show i < 9223372036854775807 by omega)]
    unfold twinP
    split <;> rfl) (by simp [slices_IndexFunc_impl_Estimate_impl_Estimate__impl_kindsOf_c3_l1])]
  have ha : twin l e l.length = ((List.range l.length).find? fun i => twinP e (l.getD i default)).isSome := by
    unfold twin
    rw [Bool.eq_iff_iff, List.find?_isSome, List.any_eq_true]
  rw [ha]
  cases (List.range l.length).find? fun i => twinP e (l.getD i default) with
  | none => rfl
  | some j => simp

theorem twin_take {l : List Estimate} {e : Estimate} {i : Nat} (hi : i ≤ l.length) : twin (l.take i) e (l.take i).length = twin l e i := by
  have hl : (l.take i).length = i := by simp; omega
  rw [hl]
  unfold twin
  rw [Bool.eq_iff_iff, List.any_eq_true, List.any_eq_true]
  constructor <;> rintro ⟨j, hj, h⟩ <;> refine ⟨j, hj, ?_⟩ <;> have hj' : j < i := by simpa using hj
  · simpa [List.getD_eq_getElem?_getD, List.getElem?_take_of_lt hj'] using h
  · simpa [List.getD_eq_getElem?_getD, List.getElem?_take_of_lt hj'] using h

/-- The search for a twin goes down. -/
theorem down_is {l : List Estimate} (hl : l.length ≤ 1099511627776) (e : Estimate) {out : List Int} (ho : out.length ≤ 100) : ∀ i : Nat, i ≤ l.length → whileE (spec_l26Of_l1 l out e) (IntKind.i64.wrap ((i : Int) - 1)) = some (out ++ kd 5 (twin l e i))
  | 0, _ => by
    have : IntKind.i64.wrap (((0 : Nat) : Int) - 1) = -1 := by decide
    rw [this, whileE_done (r := out) (by simp [spec_l26Of_l1])]
    simp [twin, kd]
  | i + 1, hi => by
    have e1 : IntKind.i64.wrap (((i + 1 : Nat) : Int) - 1) = (i : Int) := by
      rw [show ((i + 1 : Nat) : Int) - 1 = (i : Int) by omega]
      exact wrap_i64 (by omega) (by omega)
    have ht : twin l e (i + 1) = (twin l e i || twinP e (l.getD i default)) := by
      unfold twin; rw [List.range_succ, List.any_append]; simp
    have h0 : (0 : Int) ≤ (i : Int) := by omega
    have hs : spec_l26Of_l1 l out e (i : Int) = some (if twinP e (l.getD i default) = true then .inr (out ++ [5]) else .inl (IntKind.i64.wrap ((i : Int) - 1))) := by
      simp only [spec_l26Of_l1, h0, decide_true, if_true, ixOk_nat, show i < l.length by omega, ck_true, Int.toNat_natCast, appOk_of (show (out.length + ([5] : List Int).length) * 8 ≤ 140737488355328 by simp; omega)]
      unfold twinP
      split <;> rfl
    rw [e1, ht]
    cases hp : twinP e (l.getD i default) with
    | true =>
      rw [whileE_done (r := out ++ [5]) (by rw [hs, hp]; rfl)]
      simp [kd]
    | false =>
      rw [whileE_next (s' := IntKind.i64.wrap ((i : Int) - 1)) (by rw [hs, hp]; rfl), down_is hl e ho i (by omega)]
      simp

/-- The kinds of faults of an estimate. -/
def kindsL (l : List Estimate) (i : Nat) (s : List Star) (o : List Observer) (m : Int) : List Int :=
  kd 1 (findS s (l.getD i default).Star).isNone ++ kd 2 (findO o (l.getD i default).Observer).isNone ++
    (match findS s (l.getD i default).Star with
      | some k => kd 3 (decide ((l.getD i default).Mag < IntKind.i64.wrap ((s.getD k default).Bright - m))) ++ kd 4 (!(l.getD i default).Fainter && decide (IntKind.i64.wrap ((s.getD k default).Faint + m) < (l.getD i default).Mag))
      | none => []) ++ kd 5 (twin l (l.getD i default) i)

theorem kindsOf_is {l : List Estimate} (hl : l.length ≤ 1099511627776) {s : List Star} (hs : s.length ≤ 1099511627776) {o : List Observer} (ho : o.length ≤ 1099511627776) (m : Int) {i : Nat} (hi : i < l.length) : impl_kindsOf l (i : Int) s o m = some (kindsL l i s o m) := by
  unfold impl_kindsOf kindsL
  have hct : cut l 0 (i : Int) = l.take i := by simp [cut]
  have hco : cutOk 0 (i : Int) l.length = true := by simp [cutOk]; omega
  rw [ixOk_nat, decide_eq_true hi, ck_true, Int.toNat_natCast, indexOf_find hs, Option.bind_some, findObserver_is ho, Option.bind_some, hco, hct, contains_is (by simp; omega), twin_take (by omega)]
  cases h1 : findS s (l.getD i default).Star with
  | none => cases h2 : findO o (l.getD i default).Observer <;> simp [kd, ck]
  | some k =>
    have hk := findS_lt h1
    cases h2 : findO o (l.getD i default).Observer <;> simp [kd, ck, ixOk_nat, hk]

end Go.Proofs.Ythbnoddeifedkaa
