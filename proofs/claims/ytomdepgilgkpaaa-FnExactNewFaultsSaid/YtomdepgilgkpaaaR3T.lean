/- Typed forms of the functions that R3 reaches. No condition. -/
import Derived.Test.YtomdepgilgkpaaaEngTA
namespace Go.Proofs.Ytomdepgilgkpaaa
open Go Go.RowKit
set_option linter.unusedVariables false

structure Fault where
  Index : Int
  Kind : Int
  deriving Inhabited, DecidableEq
def Fault_av (x : Fault) : AV := .agg ([.int .i64 x.Index, .int .i64 x.Kind])

attribute [go_sem] Fault_av

noncomputable def spec_l25Number_l1  : (Int × (List UInt8)) → Option ((Int × (List UInt8)) ⊕ (Int × (List UInt8)))
  | (n, out) =>
    if (decide (128 ≤ n)) then
      ck (nz 128) <|
      ck (appOk (out.length + ([(toU8 (IntKind.u8.wrap (IntKind.i64.wrap ((n.tmod 128) + 128))))] : List UInt8).length) 1) <|
      some (.inl ((IntKind.i64.wrap (n.tdiv 128)), (out ++ ([(toU8 (IntKind.u8.wrap (IntKind.i64.wrap ((n.tmod 128) + 128))))] : List UInt8))))
    else
      some (.inr (n, out))

/-- spec.l25Number -/
noncomputable def spec_l25Number (n : Int) : Option (List UInt8) :=
  (whileE (spec_l25Number_l1) (n, ([] : List UInt8))).bind fun y_4 =>
  ck (appOk (y_4.2.length + ([(toU8 (IntKind.u8.wrap y_4.1))] : List UInt8).length) 1) <|
  some (y_4.2 ++ ([(toU8 (IntKind.u8.wrap y_4.1))] : List UInt8))

/-- spec.NumberBytes -/
noncomputable def spec_NumberBytes (n : Int) : Option ((List UInt8) × Int) :=
  if (decide (n < 0)) then
    some (([] : List UInt8), 2)
  else
    (spec_l25Number n).bind fun y_2 =>
    some (y_2, 0)

noncomputable def impl_appendNumber_l1  : ((List UInt8) × Int) → Option (((List UInt8) × Int) ⊕ ((List UInt8) × Int))
  | (b, n) =>
    if (decide (128 ≤ n)) then
      ck (nz 128) <|
      ck (appOk (b.length + ([(toU8 (IntKind.u8.wrap (IntKind.i64.wrap ((n.tmod 128) + 128))))] : List UInt8).length) 1) <|
      some (.inl ((b ++ ([(toU8 (IntKind.u8.wrap (IntKind.i64.wrap ((n.tmod 128) + 128))))] : List UInt8)), (IntKind.i64.wrap (n.tdiv 128))))
    else
      some (.inr (b, n))

/-- impl.appendNumber -/
noncomputable def impl_appendNumber (b : List UInt8) (n : Int) : Option (List UInt8) :=
  (whileE (impl_appendNumber_l1) (b, n)).bind fun y_4 =>
  ck (appOk (y_4.1.length + ([(toU8 (IntKind.u8.wrap y_4.2))] : List UInt8).length) 1) <|
  some (y_4.1 ++ ([(toU8 (IntKind.u8.wrap y_4.2))] : List UInt8))

/-- impl.NumberBytes -/
noncomputable def impl_NumberBytes (n : Int) : Option ((List UInt8) × Int) :=
  if (decide (n < 0)) then
    some (([] : List UInt8), 2)
  else
    (impl_appendNumber ([] : List UInt8) n).bind fun y_2 =>
    some (y_2, 0)

noncomputable def laws_eqByteS_l1 (a : List UInt8) (b : List UInt8) : Int → Option (Int ⊕ (Unit ⊕ Bool))
  | i =>
    if (decide (i < (a.length : Int))) then
      ck (ixOk i a.length) <|
      ck (ixOk i b.length) <|
      if (!(((a.getD i.toNat default).toNat : Int) == ((b.getD i.toNat default).toNat : Int))) then
        some (.inr (.inr false))
      else
        some (.inl (IntKind.i64.wrap (i + 1)))
    else
      some (.inr (.inl ()))

/-- laws.eqByteS -/
noncomputable def laws_eqByteS (a : List UInt8) (b : List UInt8) : Option Bool :=
  if (!((a.length : Int) == (b.length : Int))) then
    some false
  else
    (whileE (laws_eqByteS_l1 a b) 0).bind fun y_6 =>
    match y_6 with
    | .inl y_6a =>
      some true
    | .inr y_6b =>
      some y_6b

noncomputable def laws_markByteS_l1  : ((List UInt8) × Int × Int) → Option (((List UInt8) × Int × Int) ⊕ ((List UInt8) × Int))
  | (a, k, i) =>
    if (decide (i < (a.length : Int))) then
      ck (ixOk i a.length) <|
      some (.inl ((a.set i.toNat (toU8 (IntKind.u8.wrap k))), (IntKind.i64.wrap (k + 1)), (IntKind.i64.wrap (i + 1))))
    else
      some (.inr (a, k))

/-- laws.markByteS -/
noncomputable def laws_markByteS (a : List UInt8) (k : Int) : Option (Int × (List UInt8)) :=
  (whileE (laws_markByteS_l1) (a, k, 0)).bind fun y_3 =>
  ck (y_3.1.length == a.length) <|
  some (y_3.2, y_3.1)

noncomputable def laws_heldByteS_l1 (a : List UInt8) : (Int × Int) → Option ((Int × Int) ⊕ (Int ⊕ Int))
  | (k, i) =>
    if (decide (i < (a.length : Int))) then
      ck (ixOk i a.length) <|
      if (!(((a.getD i.toNat default).toNat : Int) == (IntKind.u8.wrap k))) then
        some (.inr (.inr (-1)))
      else
        some (.inl ((IntKind.i64.wrap (k + 1)), (IntKind.i64.wrap (i + 1))))
    else
      some (.inr (.inl k))

/-- laws.heldByteS -/
noncomputable def laws_heldByteS (a : List UInt8) (k : Int) : Option Int :=
  (whileE (laws_heldByteS_l1 a) (k, 0)).bind fun y_4 =>
  match y_4 with
  | .inl y_4a =>
    some y_4a
  | .inr y_4b =>
    some y_4b

/-- laws.FnExactNumberBytes -/
noncomputable def laws_FnExactNumberBytes (aN : Int) : Option Bool :=
  (spec_NumberBytes aN).bind fun y_1 =>
  (impl_NumberBytes aN).bind fun y_2 =>
  (laws_eqByteS y_2.1 y_1.1).bind fun y_3 =>
  if ((!y_3) || (!(y_2.2 == y_1.2))) then
    some false
  else
    (laws_markByteS y_2.1 1).bind fun y_5 =>
    (laws_heldByteS y_5.2 1).bind fun y_6 =>
    if (decide (y_6 < 0)) then
      some false
    else
      if (!(y_6 == y_5.1)) then
        some false
      else
        some true

/-- spec.l00In -/
noncomputable def spec_l00In (n : Int) (low : Int) (high : Int) : Option Bool :=
  some ((decide (low ≤ n)) && (decide (n ≤ high)))

noncomputable def spec_SampleOf_l1 (count : Int) : ((List Int) × Int × Int × Int) → Option (((List Int) × Int × Int × Int) ⊕ (List Int))
  | (out, x, need, i) =>
    if (decide (0 < need)) then
      ck (nz 65537) <|
      ck (nz (IntKind.i64.wrap (count - i))) <|
      if (decide ((((IntKind.i64.wrap ((IntKind.i64.wrap (x * 75)) + 74)).tmod 65537).tmod (IntKind.i64.wrap (count - i))) < need)) then
        ck (appOk (out.length + ([i] : List Int).length) 8) <|
        some (.inl ((out ++ ([i] : List Int)), ((IntKind.i64.wrap ((IntKind.i64.wrap (x * 75)) + 74)).tmod 65537), (IntKind.i64.wrap (need - 1)), (IntKind.i64.wrap (i + 1))))
      else
        some (.inl (out, ((IntKind.i64.wrap ((IntKind.i64.wrap (x * 75)) + 74)).tmod 65537), need, (IntKind.i64.wrap (i + 1))))
    else
      some (.inr out)

/-- spec.SampleOf -/
noncomputable def spec_SampleOf (count : Int) (many : Int) (seed : Int) : Option ((List Int) × Int) :=
  (spec_l00In count 0 10000).bind fun y_1 =>
  ck (!(!(!y_1)) || (spec_l00In many 0 100).isSome) <|
  ck (!(!((!y_1) || (!((spec_l00In many 0 100).getD default)))) || (spec_l00In seed 0 65535).isSome) <|
  if (((!y_1) || (!((spec_l00In many 0 100).getD default))) || (!((spec_l00In seed 0 65535).getD default))) then
    some (([] : List Int), 2)
  else
    if (decide (count < many)) then
      some (([] : List Int), 6)
    else
      (whileE (spec_SampleOf_l1 count) (([] : List Int), seed, many, 0)).bind fun y_11 =>
      some (y_11, 0)

/-- impl.in -/
noncomputable def impl_in (n : Int) (low : Int) (high : Int) : Option Bool :=
  some ((decide (low ≤ n)) && (decide (n ≤ high)))

noncomputable def impl_SampleOf_l1 (count : Int) (many : Int) : ((List Int) × Int × Int) → Option (((List Int) × Int × Int) ⊕ (List Int))
  | (out, x, i) =>
    if ((decide (i < count)) && (decide ((out.length : Int) < many))) then
      ck (nz 65537) <|
      ck (nz (IntKind.i64.wrap (count - i))) <|
      if (decide ((((IntKind.i64.wrap ((IntKind.i64.wrap (75 * x)) + 74)).tmod 65537).tmod (IntKind.i64.wrap (count - i))) < (IntKind.i64.wrap (many - (out.length : Int))))) then
        ck (appOk (out.length + ([i] : List Int).length) 8) <|
        some (.inl ((out ++ ([i] : List Int)), ((IntKind.i64.wrap ((IntKind.i64.wrap (75 * x)) + 74)).tmod 65537), (IntKind.i64.wrap (i + 1))))
      else
        some (.inl (out, ((IntKind.i64.wrap ((IntKind.i64.wrap (75 * x)) + 74)).tmod 65537), (IntKind.i64.wrap (i + 1))))
    else
      some (.inr out)

/-- impl.SampleOf -/
noncomputable def impl_SampleOf (count : Int) (many : Int) (seed : Int) : Option ((List Int) × Int) :=
  (impl_in count 0 10000).bind fun y_1 =>
  ck (!(!(!y_1)) || (impl_in many 0 100).isSome) <|
  ck (!(!((!y_1) || (!((impl_in many 0 100).getD default)))) || (impl_in seed 0 65535).isSome) <|
  if (((!y_1) || (!((impl_in many 0 100).getD default))) || (!((impl_in seed 0 65535).getD default))) then
    some (([] : List Int), 2)
  else
    if (decide (count < many)) then
      some (([] : List Int), 6)
    else
      (whileE (impl_SampleOf_l1 count many) (([] : List Int), seed, 0)).bind fun y_11 =>
      some (y_11, 0)

noncomputable def laws_eqInt64S_l1 (a : List Int) (b : List Int) : Int → Option (Int ⊕ (Unit ⊕ Bool))
  | i =>
    if (decide (i < (a.length : Int))) then
      ck (ixOk i a.length) <|
      ck (ixOk i b.length) <|
      if (!((a.getD i.toNat default) == (b.getD i.toNat default))) then
        some (.inr (.inr false))
      else
        some (.inl (IntKind.i64.wrap (i + 1)))
    else
      some (.inr (.inl ()))

/-- laws.eqInt64S -/
noncomputable def laws_eqInt64S (a : List Int) (b : List Int) : Option Bool :=
  if (!((a.length : Int) == (b.length : Int))) then
    some false
  else
    (whileE (laws_eqInt64S_l1 a b) 0).bind fun y_6 =>
    match y_6 with
    | .inl y_6a =>
      some true
    | .inr y_6b =>
      some y_6b

noncomputable def laws_markInt64S_l1  : ((List Int) × Int × Int) → Option (((List Int) × Int × Int) ⊕ ((List Int) × Int))
  | (a, k, i) =>
    if (decide (i < (a.length : Int))) then
      ck (ixOk i a.length) <|
      some (.inl ((a.set i.toNat k), (IntKind.i64.wrap (k + 1)), (IntKind.i64.wrap (i + 1))))
    else
      some (.inr (a, k))

/-- laws.markInt64S -/
noncomputable def laws_markInt64S (a : List Int) (k : Int) : Option (Int × (List Int)) :=
  (whileE (laws_markInt64S_l1) (a, k, 0)).bind fun y_3 =>
  ck (y_3.1.length == a.length) <|
  some (y_3.2, y_3.1)

noncomputable def laws_heldInt64S_l1 (a : List Int) : (Int × Int) → Option ((Int × Int) ⊕ (Int ⊕ Int))
  | (k, i) =>
    if (decide (i < (a.length : Int))) then
      ck (ixOk i a.length) <|
      if (!((a.getD i.toNat default) == k)) then
        some (.inr (.inr (-1)))
      else
        some (.inl ((IntKind.i64.wrap (k + 1)), (IntKind.i64.wrap (i + 1))))
    else
      some (.inr (.inl k))

/-- laws.heldInt64S -/
noncomputable def laws_heldInt64S (a : List Int) (k : Int) : Option Int :=
  (whileE (laws_heldInt64S_l1 a) (k, 0)).bind fun y_4 =>
  match y_4 with
  | .inl y_4a =>
    some y_4a
  | .inr y_4b =>
    some y_4b

/-- laws.FnExactSampleOf -/
noncomputable def laws_FnExactSampleOf (aCount : Int) (aMany : Int) (aSeed : Int) : Option Bool :=
  (spec_SampleOf aCount aMany aSeed).bind fun y_1 =>
  (impl_SampleOf aCount aMany aSeed).bind fun y_2 =>
  (laws_eqInt64S y_2.1 y_1.1).bind fun y_3 =>
  if ((!y_3) || (!(y_2.2 == y_1.2))) then
    some false
  else
    (laws_markInt64S y_2.1 1).bind fun y_5 =>
    (laws_heldInt64S y_5.2 1).bind fun y_6 =>
    if (decide (y_6 < 0)) then
      some false
    else
      if (!(y_6 == y_5.1)) then
        some false
      else
        some true

/-- laws.szFaultS -/
noncomputable def laws_szFaultS (a : List Fault) (left_ : Int) : Option Int :=
  if (decide ((IntKind.i64.wrap (left_ - (a.length : Int))) < 0)) then
    some (-1)
  else
    some (IntKind.i64.wrap (left_ - (a.length : Int)))

/-- laws.toFault -/
noncomputable def laws_toFault (a : Fault) : Option Fault :=
  some a

noncomputable def laws_toFaultS_l1 (a : List Fault) : ((List Fault) × Int) → Option (((List Fault) × Int) ⊕ (List Fault))
  | (out, i) =>
    if (decide (i < (a.length : Int))) then
      ck (ixOk i a.length) <|
      (laws_toFault (a.getD i.toNat default)).bind fun y_4 =>
      ck (ixOk i out.length) <|
      some (.inl ((out.set i.toNat y_4), (IntKind.i64.wrap (i + 1))))
    else
      some (.inr out)

/-- laws.toFaultS -/
noncomputable def laws_toFaultS (a : List Fault) : Option (List Fault) :=
  ck (mkOk (a.length : Int) 16) <|
  (whileE (laws_toFaultS_l1 a) ((List.replicate (a.length : Int).toNat (Fault.mk 0 0)), 0)).bind fun y_6 =>
  some y_6

/-- spec.l26Kind -/
noncomputable def spec_l26Kind (n : Int) : Option Bool :=
  (spec_l00In n 1 5).bind fun y_1 =>
  some y_1

noncomputable def spec_l26Faults_l1 (faults : List Fault) (count : Int) : Int → Option (Int ⊕ (Unit ⊕ Bool))
  | i =>
    if (decide (i < (faults.length : Int))) then
      ck (ixOk i faults.length) <|
      (spec_l00In ((faults.getD i.toNat default).Index) 0 (IntKind.i64.wrap (count - 1))).bind fun y_3 =>
      ck (!(!(!y_3)) || (spec_l26Kind ((faults.getD i.toNat default).Kind)).isSome) <|
      if ((!y_3) || (!((spec_l26Kind ((faults.getD i.toNat default).Kind)).getD default))) then
        some (.inr (.inr false))
      else
        ck (!(decide (0 < i)) || ixOk (IntKind.i64.wrap (i - 1)) faults.length) <|
        ck (!((decide (0 < i)) && !(decide (((faults.getD i.toNat default).Index) < ((faults.getD (IntKind.i64.wrap (i - 1)).toNat default).Index)))) || ixOk (IntKind.i64.wrap (i - 1)) faults.length) <|
        ck (!(((decide (0 < i)) && !(decide (((faults.getD i.toNat default).Index) < ((faults.getD (IntKind.i64.wrap (i - 1)).toNat default).Index)))) && (((faults.getD (IntKind.i64.wrap (i - 1)).toNat default).Index) == ((faults.getD i.toNat default).Index))) || ixOk (IntKind.i64.wrap (i - 1)) faults.length) <|
        if ((decide (0 < i)) && ((decide (((faults.getD i.toNat default).Index) < ((faults.getD (IntKind.i64.wrap (i - 1)).toNat default).Index))) || ((((faults.getD (IntKind.i64.wrap (i - 1)).toNat default).Index) == ((faults.getD i.toNat default).Index)) && (decide (((faults.getD i.toNat default).Kind) ≤ ((faults.getD (IntKind.i64.wrap (i - 1)).toNat default).Kind)))))) then
          some (.inr (.inr false))
        else
          some (.inl (IntKind.i64.wrap (i + 1)))
    else
      some (.inr (.inl ()))

/-- spec.l26Faults -/
noncomputable def spec_l26Faults (faults : List Fault) (count : Int) : Option Bool :=
  (whileE (spec_l26Faults_l1 faults count) 0).bind fun y_10 =>
  match y_10 with
  | .inl y_10a =>
    some true
  | .inr y_10b =>
    some y_10b

noncomputable def spec_CountFaults_l1 (faults : List Fault) : ((List Int) × Int) → Option (((List Int) × Int) ⊕ (List Int))
  | (out, i) =>
    if (decide (i < (faults.length : Int))) then
      ck (ixOk i faults.length) <|
      ck (ixOk (IntKind.i64.wrap (((faults.getD i.toNat default).Kind) - 1)) out.length) <|
      some (.inl ((out.set ((IntKind.i64.wrap (((faults.getD i.toNat default).Kind) - 1)).toNat) (IntKind.i64.wrap ((out.getD (IntKind.i64.wrap (((faults.getD i.toNat default).Kind) - 1)).toNat default) + 1))), (IntKind.i64.wrap (i + 1))))
    else
      some (.inr out)

/-- spec.CountFaults -/
noncomputable def spec_CountFaults (faults : List Fault) : Option ((List Int) × Int) :=
  (spec_l26Faults faults 100).bind fun y_1 =>
  if (!y_1) then
    some (([] : List Int), 2)
  else
    ck (mkOk 5 8) <|
    (whileE (spec_CountFaults_l1 faults) ((List.replicate 5 0), 0)).bind fun y_7 =>
    some (y_7, 0)

noncomputable def impl_ordered_l1 (faults : List Fault) (estimates : Int) (t7 : List Fault) (t8 : Int) : Int → Option (Int ⊕ (Unit ⊕ Bool))
  | t9 =>
    if (decide (t9 < t8)) then
      ck (ixOk t9 t7.length) <|
      (impl_in ((t7.getD t9.toNat default).Index) 0 (IntKind.i64.wrap (estimates - 1))).bind fun y_3 =>
      ck (!(!(!y_3)) || (impl_in ((t7.getD t9.toNat default).Kind) 1 5).isSome) <|
      if ((!y_3) || (!((impl_in ((t7.getD t9.toNat default).Kind) 1 5).getD default))) then
        some (.inr (.inr false))
      else
        ck (!(decide (0 < t9)) || ixOk (IntKind.i64.wrap (t9 - 1)) faults.length) <|
        ck (!((decide (0 < t9)) && !(decide (((t7.getD t9.toNat default).Index) < ((faults.getD (IntKind.i64.wrap (t9 - 1)).toNat default).Index)))) || ixOk (IntKind.i64.wrap (t9 - 1)) faults.length) <|
        ck (!(((decide (0 < t9)) && !(decide (((t7.getD t9.toNat default).Index) < ((faults.getD (IntKind.i64.wrap (t9 - 1)).toNat default).Index)))) && (((faults.getD (IntKind.i64.wrap (t9 - 1)).toNat default).Index) == ((t7.getD t9.toNat default).Index))) || ixOk (IntKind.i64.wrap (t9 - 1)) faults.length) <|
        if ((decide (0 < t9)) && ((decide (((t7.getD t9.toNat default).Index) < ((faults.getD (IntKind.i64.wrap (t9 - 1)).toNat default).Index))) || ((((faults.getD (IntKind.i64.wrap (t9 - 1)).toNat default).Index) == ((t7.getD t9.toNat default).Index)) && (decide (((t7.getD t9.toNat default).Kind) ≤ ((faults.getD (IntKind.i64.wrap (t9 - 1)).toNat default).Kind)))))) then
          some (.inr (.inr false))
        else
          some (.inl (IntKind.i64.wrap (t9 + 1)))
    else
      some (.inr (.inl ()))

/-- impl.ordered -/
noncomputable def impl_ordered (faults : List Fault) (estimates : Int) : Option Bool :=
  (whileE (impl_ordered_l1 faults estimates faults (faults.length : Int)) 0).bind fun y_10 =>
  match y_10 with
  | .inl y_10a =>
    some true
  | .inr y_10b =>
    some y_10b

noncomputable def impl_CountFaults_l1 (t11 : List Fault) (t12 : Int) : ((List Int) × Int) → Option (((List Int) × Int) ⊕ (List Int))
  | (out, t13) =>
    if (decide (t13 < t12)) then
      ck (ixOk t13 t11.length) <|
      ck (ixOk (IntKind.i64.wrap (((t11.getD t13.toNat default).Kind) - 1)) out.length) <|
      some (.inl ((out.set ((IntKind.i64.wrap (((t11.getD t13.toNat default).Kind) - 1)).toNat) (IntKind.i64.wrap ((out.getD (IntKind.i64.wrap (((t11.getD t13.toNat default).Kind) - 1)).toNat default) + 1))), (IntKind.i64.wrap (t13 + 1))))
    else
      some (.inr out)

/-- impl.CountFaults -/
noncomputable def impl_CountFaults (faults : List Fault) : Option ((List Int) × Int) :=
  (impl_ordered faults 100).bind fun y_1 =>
  if (!y_1) then
    some (([] : List Int), 2)
  else
    ck (mkOk 5 8) <|
    (whileE (impl_CountFaults_l1 faults (faults.length : Int)) ((List.replicate 5 0), 0)).bind fun y_7 =>
    some (y_7, 0)

/-- laws.eqFault -/
noncomputable def laws_eqFault (a : Fault) (b : Fault) : Option Bool :=
  if (!(a.Index == b.Index)) then
    some false
  else
    if (!(a.Kind == b.Kind)) then
      some false
    else
      some true

noncomputable def laws_eqFaultS_l1 (a : List Fault) (b : List Fault) : Int → Option (Int ⊕ (Unit ⊕ Bool))
  | i =>
    if (decide (i < (a.length : Int))) then
      ck (ixOk i a.length) <|
      ck (ixOk i b.length) <|
      (laws_eqFault (a.getD i.toNat default) (b.getD i.toNat default)).bind fun y_5 =>
      if (!y_5) then
        some (.inr (.inr false))
      else
        some (.inl (IntKind.i64.wrap (i + 1)))
    else
      some (.inr (.inl ()))

/-- laws.eqFaultS -/
noncomputable def laws_eqFaultS (a : List Fault) (b : List Fault) : Option Bool :=
  if (!((a.length : Int) == (b.length : Int))) then
    some false
  else
    (whileE (laws_eqFaultS_l1 a b) 0).bind fun y_7 =>
    match y_7 with
    | .inl y_7a =>
      some true
    | .inr y_7b =>
      some y_7b

noncomputable def laws_markFaultS_l1  : ((List Fault) × Int × Int) → Option (((List Fault) × Int × Int) ⊕ ((List Fault) × Int))
  | (a, k, i) =>
    if (decide (i < (a.length : Int))) then
      ck (ixOk i a.length) <|
      ck (ixOk i ((a.set i.toNat (Fault.mk k ((a.getD i.toNat default).Kind))).length)) <|
      some (.inl (((a.set i.toNat (Fault.mk k ((a.getD i.toNat default).Kind))).set i.toNat (Fault.mk (((a.set i.toNat (Fault.mk k ((a.getD i.toNat default).Kind))).getD i.toNat default).Index) (IntKind.i64.wrap (k + 1)))), (IntKind.i64.wrap ((IntKind.i64.wrap (k + 1)) + 1)), (IntKind.i64.wrap (i + 1))))
    else
      some (.inr (a, k))

/-- laws.markFaultS -/
noncomputable def laws_markFaultS (a : List Fault) (k : Int) : Option (Int × (List Fault)) :=
  (whileE (laws_markFaultS_l1) (a, k, 0)).bind fun y_4 =>
  ck (y_4.1.length == a.length) <|
  some (y_4.2, y_4.1)

/-- laws.FnExactCountFaults -/
noncomputable def laws_FnExactCountFaults (aFaults : List Fault) : Option Bool :=
  (laws_szFaultS aFaults 1048576).bind fun y_1 =>
  if (decide (y_1 < 0)) then
    some true
  else
    (laws_toFaultS aFaults).bind fun y_3 =>
    (spec_CountFaults y_3).bind fun y_4 =>
    (impl_CountFaults y_3).bind fun y_5 =>
    (laws_eqInt64S y_5.1 y_4.1).bind fun y_6 =>
    if ((!y_6) || (!(y_5.2 == y_4.2))) then
      some false
    else
      (laws_eqFaultS y_3 y_3).bind fun y_8 =>
      if (!y_8) then
        some false
      else
        (laws_markFaultS y_3 1).bind fun y_10 =>
        if (((decide (y_10.1 < 0)) || (!y_6)) || (!(y_5.2 == y_4.2))) then
          some false
        else
          (laws_markInt64S y_5.1 1).bind fun y_13 =>
          (laws_heldInt64S y_13.2 1).bind fun y_14 =>
          if (decide (y_14 < 0)) then
            some false
          else
            if (!(y_14 == y_13.1)) then
              some false
            else
              some true

noncomputable def spec_NewFaults_l2 (before : List Fault) (now : List Fault) (out : List Fault) (i : Int) : (Bool × Int) → Option ((Bool × Int) ⊕ Bool)
  | (known, k) =>
    if (decide (k < (before.length : Int))) then
      ck (!(!known) || ixOk k before.length) <|
      ck (!(!known) || ixOk i now.length) <|
      some (.inl ((known || ((((before.getD k.toNat default).Index) == ((now.getD i.toNat default).Index)) && (((before.getD k.toNat default).Kind) == ((now.getD i.toNat default).Kind)))), (IntKind.i64.wrap (k + 1))))
    else
      some (.inr known)

noncomputable def spec_NewFaults_l1 (before : List Fault) (now : List Fault) : ((List Fault) × Int) → Option (((List Fault) × Int) ⊕ (List Fault))
  | (out, i) =>
    if (decide (i < (now.length : Int))) then
      (whileE (spec_NewFaults_l2 before now out i) (false, 0)).bind fun y_8 =>
      if (!y_8) then
        ck (ixOk i now.length) <|
        ck (appOk (out.length + ([(now.getD i.toNat default)] : List Fault).length) 16) <|
        some (.inl ((out ++ ([(now.getD i.toNat default)] : List Fault)), (IntKind.i64.wrap (i + 1))))
      else
        some (.inl (out, (IntKind.i64.wrap (i + 1))))
    else
      some (.inr out)

/-- spec.NewFaults -/
noncomputable def spec_NewFaults (before : List Fault) (now : List Fault) : Option ((List Fault) × Int) :=
  (spec_l26Faults before 100).bind fun y_1 =>
  ck (!(!(!y_1)) || (spec_l26Faults now 100).isSome) <|
  if ((!y_1) || (!((spec_l26Faults now 100).getD default))) then
    some (([] : List Fault), 2)
  else
    (whileE (spec_NewFaults_l1 before now) (([] : List Fault), 0)).bind fun y_12 =>
    some (y_12, 0)

noncomputable def slices_Index_impl_Fault_impl_Fault_l1 (s_ : List Fault) (v : Fault) (t7 : Int) : Int → Option (Int ⊕ (Unit ⊕ Int))
  | t8 =>
    if (decide (t8 < t7)) then
      ck (ixOk t8 s_.length) <|
      if ((v.Index == ((s_.getD t8.toNat default).Index)) && (v.Kind == ((s_.getD t8.toNat default).Kind))) then
        some (.inr (.inr t8))
      else
        some (.inl (IntKind.i64.wrap (t8 + 1)))
    else
      some (.inr (.inl ()))

/-- slices.Index[[]impl.Fault,impl.Fault] -/
noncomputable def slices_Index_impl_Fault_impl_Fault (s_ : List Fault) (v : Fault) : Option Int :=
  (whileE (slices_Index_impl_Fault_impl_Fault_l1 s_ v (s_.length : Int)) 0).bind fun y_4 =>
  match y_4 with
  | .inl y_4a =>
    some (-1)
  | .inr y_4b =>
    some y_4b

/-- slices.Contains[[]impl.Fault,impl.Fault] -/
noncomputable def slices_Contains_impl_Fault_impl_Fault (s_ : List Fault) (v : Fault) : Option Bool :=
  (slices_Index_impl_Fault_impl_Fault s_ v).bind fun y_1 =>
  some (decide (0 ≤ y_1))

/-- impl.NewFaults$1 -/
noncomputable def impl_NewFaults_c1 (x : Fault) (t1 : List Fault) : Option Bool :=
  (slices_Contains_impl_Fault_impl_Fault t1 x).bind fun y_1 =>
  some (!y_1)

noncomputable def impl_chosen_impl_Fault__impl_NewFaults_c1_l1 (c : List Fault) (t9 : List Fault) (t10 : Int) : ((List Fault) × Int) → Option (((List Fault) × Int) ⊕ (List Fault))
  | (out, t11) =>
    if (decide (t11 < t10)) then
      ck (ixOk t11 t9.length) <|
      (impl_NewFaults_c1 (t9.getD t11.toNat default) c).bind fun y_3 =>
      if y_3 then
        ck (appOk (out.length + ([(t9.getD t11.toNat default)] : List Fault).length) 16) <|
        some (.inl ((out ++ ([(t9.getD t11.toNat default)] : List Fault)), (IntKind.i64.wrap (t11 + 1))))
      else
        some (.inl (out, (IntKind.i64.wrap (t11 + 1))))
    else
      some (.inr out)

/-- impl.chosen[impl.Fault] -/
noncomputable def impl_chosen_impl_Fault__impl_NewFaults_c1 (list : List Fault) (wanted_c0 : List Fault) : Option (List Fault) :=
  (whileE (impl_chosen_impl_Fault__impl_NewFaults_c1_l1 wanted_c0 list (list.length : Int)) (([] : List Fault), 0)).bind fun y_6 =>
  some y_6

/-- impl.NewFaults -/
noncomputable def impl_NewFaults (before : List Fault) (now : List Fault) : Option ((List Fault) × Int) :=
  (impl_ordered before 100).bind fun y_1 =>
  ck (!(!(!y_1)) || (impl_ordered now 100).isSome) <|
  if ((!y_1) || (!((impl_ordered now 100).getD default))) then
    some (([] : List Fault), 2)
  else
    (impl_chosen_impl_Fault__impl_NewFaults_c1 now before).bind fun y_4 =>
    some (y_4, 0)

noncomputable def laws_heldFaultS_l1 (a : List Fault) : (Int × Int) → Option ((Int × Int) ⊕ (Int ⊕ Int))
  | (k, i) =>
    if (decide (i < (a.length : Int))) then
      ck (ixOk i a.length) <|
      if (!(((a.getD i.toNat default).Index) == k)) then
        some (.inr (.inr (-1)))
      else
        if (!(((a.getD i.toNat default).Kind) == (IntKind.i64.wrap (k + 1)))) then
          some (.inr (.inr (-1)))
        else
          some (.inl ((IntKind.i64.wrap ((IntKind.i64.wrap (k + 1)) + 1)), (IntKind.i64.wrap (i + 1))))
    else
      some (.inr (.inl k))

/-- laws.heldFaultS -/
noncomputable def laws_heldFaultS (a : List Fault) (k : Int) : Option Int :=
  (whileE (laws_heldFaultS_l1 a) (k, 0)).bind fun y_5 =>
  match y_5 with
  | .inl y_5a =>
    some y_5a
  | .inr y_5b =>
    some y_5b

/-- laws.FnExactNewFaults -/
noncomputable def laws_FnExactNewFaults (aBefore : List Fault) (aNow : List Fault) : Option Bool :=
  (laws_szFaultS aBefore 1048576).bind fun y_1 =>
  if (decide (y_1 < 0)) then
    some true
  else
    (laws_szFaultS aNow y_1).bind fun y_3 =>
    if (decide (y_3 < 0)) then
      some true
    else
      (laws_toFaultS aBefore).bind fun y_5 =>
      (laws_toFaultS aNow).bind fun y_6 =>
      (spec_NewFaults y_5 y_6).bind fun y_7 =>
      (impl_NewFaults y_5 y_6).bind fun y_8 =>
      (laws_eqFaultS y_8.1 y_7.1).bind fun y_9 =>
      if ((!y_9) || (!(y_8.2 == y_7.2))) then
        some false
      else
        (laws_eqFaultS y_5 y_5).bind fun y_11 =>
        if (!y_11) then
          some false
        else
          (laws_eqFaultS y_6 y_6).bind fun y_13 =>
          if (!y_13) then
            some false
          else
            (laws_markFaultS y_5 1).bind fun y_15 =>
            (laws_markFaultS y_6 y_15.1).bind fun y_16 =>
            if (((decide (y_16.1 < 0)) || (!y_9)) || (!(y_8.2 == y_7.2))) then
              some false
            else
              (laws_markFaultS y_8.1 1).bind fun y_19 =>
              (laws_heldFaultS y_19.2 1).bind fun y_20 =>
              if (decide (y_20 < 0)) then
                some false
              else
                if (!(y_20 == y_19.1)) then
                  some false
                else
                  some true

end Go.Proofs.Ytomdepgilgkpaaa
