/- Typed forms of the functions that R8 reaches. No condition. -/
import Derived.Test.YtcfjogkgmkagiabEngSH
namespace Go.Proofs.Ytcfjogkgmkagiab
open Go Go.RowKit
set_option linter.unusedVariables false

structure Estimate where
  Time : Int
  Star : List UInt8
  Observer : List UInt8
  Mag : Int
  Fainter : Bool
  deriving Inhabited, DecidableEq
def Estimate_av (x : Estimate) : AV := .agg ([.int .i64 x.Time, .str x.Star, .str x.Observer, .int .i64 x.Mag, .bool x.Fainter])

structure Fault where
  Index : Int
  Kind : Int
  deriving Inhabited, DecidableEq
def Fault_av (x : Fault) : AV := .agg ([.int .i64 x.Index, .int .i64 x.Kind])

structure Fraction where
  Num : Int
  Den : Int
  deriving Inhabited, DecidableEq
def Fraction_av (x : Fraction) : AV := .agg ([.int .i64 x.Num, .int .i64 x.Den])

attribute [go_sem] Estimate_av Fault_av Fraction_av

/-- laws.szEstimate -/
noncomputable def laws_szEstimate (a : Estimate) (left_ : Int) : Option Int :=
  if (decide ((IntKind.i64.wrap (left_ - (a.Star.length : Int))) < 0)) then
    some (-1)
  else
    if (decide ((IntKind.i64.wrap ((IntKind.i64.wrap (left_ - (a.Star.length : Int))) - (a.Observer.length : Int))) < 0)) then
      some (-1)
    else
      some (IntKind.i64.wrap ((IntKind.i64.wrap (left_ - (a.Star.length : Int))) - (a.Observer.length : Int)))

noncomputable def laws_szEstimateS_l1 (a : List Estimate) : (Int × Int) → Option ((Int × Int) ⊕ (Int ⊕ Int))
  | (left_, i) =>
    if (decide (i < (a.length : Int))) then
      ck (ixOk i a.length) <|
      (laws_szEstimate (a.getD i.toNat default) left_).bind fun y_4 =>
      if (decide (y_4 < 0)) then
        some (.inr (.inr (-1)))
      else
        some (.inl (y_4, (IntKind.i64.wrap (i + 1))))
    else
      some (.inr (.inl left_))

/-- laws.szEstimateS -/
noncomputable def laws_szEstimateS (a : List Estimate) (left_ : Int) : Option Int :=
  if (decide ((IntKind.i64.wrap (left_ - (a.length : Int))) < 0)) then
    some (-1)
  else
    (whileE (laws_szEstimateS_l1 a) ((IntKind.i64.wrap (left_ - (a.length : Int))), 0)).bind fun y_6 =>
    match y_6 with
    | .inl y_6a =>
      some y_6a
    | .inr y_6b =>
      some y_6b

/-- laws.szFaultS -/
noncomputable def laws_szFaultS (a : List Fault) (left_ : Int) : Option Int :=
  if (decide ((IntKind.i64.wrap (left_ - (a.length : Int))) < 0)) then
    some (-1)
  else
    some (IntKind.i64.wrap (left_ - (a.length : Int)))

/-- laws.toEstimate -/
noncomputable def laws_toEstimate (a : Estimate) : Option Estimate :=
  some a

noncomputable def laws_toEstimateS_l1 (a : List Estimate) : ((List Estimate) × Int) → Option (((List Estimate) × Int) ⊕ (List Estimate))
  | (out, i) =>
    if (decide (i < (a.length : Int))) then
      ck (ixOk i a.length) <|
      (laws_toEstimate (a.getD i.toNat default)).bind fun y_4 =>
      ck (ixOk i out.length) <|
      some (.inl ((out.set i.toNat y_4), (IntKind.i64.wrap (i + 1))))
    else
      some (.inr out)

/-- laws.toEstimateS -/
noncomputable def laws_toEstimateS (a : List Estimate) : Option (List Estimate) :=
  ck (mkOk (a.length : Int) 56) <|
  (whileE (laws_toEstimateS_l1 a) ((List.replicate (a.length : Int).toNat (Estimate.mk 0 [] [] 0 false)), 0)).bind fun y_6 =>
  some y_6

/-- laws.toFault -/
noncomputable def laws_toFault (a : Fault) : Option Fault :=
  some a

noncomputable def laws_toFaultS_l1 (a : List Fault) : ((List Fault) × Int) → Option (((List Fault) × Int) ⊕ (List Fault))
  | (out, i) =>
    if (decide (i < (a.length : Int))) then
      ck (ixOk i a.length) <|
      (laws_toFault (a.getD i.toNat default)).bind fun y_4 =>
      ck (ixOk i out.length) <|
      some (.inl ((out.set i.toNat y_4), (IntKind.i64.wrap (i + 1))))
    else
      some (.inr out)

/-- laws.toFaultS -/
noncomputable def laws_toFaultS (a : List Fault) : Option (List Fault) :=
  ck (mkOk (a.length : Int) 16) <|
  (whileE (laws_toFaultS_l1 a) ((List.replicate (a.length : Int).toNat (Fault.mk 0 0)), 0)).bind fun y_6 =>
  some y_6

/-- spec.l00In -/
noncomputable def spec_l00In (n : Int) (low : Int) (high : Int) : Option Bool :=
  some ((decide (low ≤ n)) && (decide (n ≤ high)))

/-- spec.l06Time -/
noncomputable def spec_l06Time (n : Int) : Option Bool :=
  (spec_l00In n 0 10000000).bind fun y_1 =>
  some y_1

/-- spec.l01Small -/
noncomputable def spec_l01Small (c : UInt8) : Option Bool :=
  some ((decide (97 ≤ (c.toNat : Int))) && (decide ((c.toNat : Int) ≤ 122)))

/-- spec.l01Digit -/
noncomputable def spec_l01Digit (c : UInt8) : Option Bool :=
  some ((decide (48 ≤ (c.toNat : Int))) && (decide ((c.toNat : Int) ≤ 57)))

noncomputable def spec_IsName_l1 (s_ : List UInt8) : Int → Option (Int ⊕ (Unit ⊕ Bool))
  | i =>
    if (decide (i < (s_.length : Int))) then
      ck (ixOk i s_.length) <|
      (spec_l01Small (s_.getD i.toNat 0)).bind fun y_6 =>
      ck (!(!y_6) || (spec_l01Digit (s_.getD i.toNat 0)).isSome) <|
      if (((!y_6) && (!((spec_l01Digit (s_.getD i.toNat 0)).getD default))) && (!(((s_.getD i.toNat 0).toNat : Int) == 45))) then
        some (.inr (.inr false))
      else
        some (.inl (IntKind.i64.wrap (i + 1)))
    else
      some (.inr (.inl ()))

/-- spec.IsName -/
noncomputable def spec_IsName (s_ : List UInt8) : Option Bool :=
  ck (!(!((s_ == ([] : List UInt8)) || (decide (12 < (s_.length : Int))))) || ixOk 0 s_.length) <|
  ck (!(!((s_ == ([] : List UInt8)) || (decide (12 < (s_.length : Int))))) || (spec_l01Small (s_.getD 0 0)).isSome) <|
  if (((s_ == ([] : List UInt8)) || (decide (12 < (s_.length : Int)))) || (!((spec_l01Small (s_.getD 0 0)).getD default))) then
    some false
  else
    (whileE (spec_IsName_l1 s_) 0).bind fun y_9 =>
    match y_9 with
    | .inl y_9a =>
      some true
    | .inr y_9b =>
      some y_9b

/-- spec.l02Mag -/
noncomputable def spec_l02Mag (m : Int) : Option Bool :=
  (spec_l00In m (-2000) 20000).bind fun y_1 =>
  some y_1

/-- spec.l06One -/
noncomputable def spec_l06One (e_ : Estimate) : Option Bool :=
  (spec_l06Time e_.Time).bind fun y_1 =>
  ck (!y_1 || (spec_IsName e_.Star).isSome) <|
  ck (!(y_1 && ((spec_IsName e_.Star).getD default)) || (spec_IsName e_.Observer).isSome) <|
  ck (!((y_1 && ((spec_IsName e_.Star).getD default)) && ((spec_IsName e_.Observer).getD default)) || (spec_l02Mag e_.Mag).isSome) <|
  some (((y_1 && ((spec_IsName e_.Star).getD default)) && ((spec_IsName e_.Observer).getD default)) && ((spec_l02Mag e_.Mag).getD default))

/-- spec.l06Before -/
noncomputable def spec_l06Before (a : Estimate) (b : Estimate) : Option Bool :=
  if (!(a.Time == b.Time)) then
    some (decide (a.Time < b.Time))
  else
    if (!(a.Star == b.Star)) then
      some (Op.bytesLess a.Star b.Star)
    else
      some (Op.bytesLess a.Observer b.Observer)

noncomputable def spec_l06Ok_l1 (list : List Estimate) : Int → Option (Int ⊕ (Unit ⊕ Bool))
  | i =>
    if (decide (i < (list.length : Int))) then
      ck (ixOk i list.length) <|
      (spec_l06One (list.getD i.toNat default)).bind fun y_3 =>
      ck (!((!(!y_3)) && (decide (0 < i))) || ixOk (IntKind.i64.wrap (i - 1)) list.length) <|
      ck (!((!(!y_3)) && (decide (0 < i))) || (spec_l06Before (list.getD (IntKind.i64.wrap (i - 1)).toNat default) (list.getD i.toNat default)).isSome) <|
      if ((!y_3) || ((decide (0 < i)) && (!((spec_l06Before (list.getD (IntKind.i64.wrap (i - 1)).toNat default) (list.getD i.toNat default)).getD default)))) then
        some (.inr (.inr false))
      else
        some (.inl (IntKind.i64.wrap (i + 1)))
    else
      some (.inr (.inl ()))

/-- spec.l06Ok -/
noncomputable def spec_l06Ok (list : List Estimate) : Option Bool :=
  (whileE (spec_l06Ok_l1 list) 0).bind fun y_7 =>
  match y_7 with
  | .inl y_7a =>
    some (decide ((list.length : Int) ≤ 100))
  | .inr y_7b =>
    some y_7b

/-- spec.l26Kind -/
noncomputable def spec_l26Kind (n : Int) : Option Bool :=
  (spec_l00In n 1 5).bind fun y_1 =>
  some y_1

noncomputable def spec_l26Faults_l1 (faults : List Fault) (count : Int) : Int → Option (Int ⊕ (Unit ⊕ Bool))
  | i =>
    if (decide (i < (faults.length : Int))) then
      ck (ixOk i faults.length) <|
      (spec_l00In ((faults.getD i.toNat default).Index) 0 (IntKind.i64.wrap (count - 1))).bind fun y_3 =>
      ck (!(!(!y_3)) || (spec_l26Kind ((faults.getD i.toNat default).Kind)).isSome) <|
      if ((!y_3) || (!((spec_l26Kind ((faults.getD i.toNat default).Kind)).getD default))) then
        some (.inr (.inr false))
      else
        ck (!(decide (0 < i)) || ixOk (IntKind.i64.wrap (i - 1)) faults.length) <|
        ck (!((decide (0 < i)) && !(decide (((faults.getD i.toNat default).Index) < ((faults.getD (IntKind.i64.wrap (i - 1)).toNat default).Index)))) || ixOk (IntKind.i64.wrap (i - 1)) faults.length) <|
        ck (!(((decide (0 < i)) && !(decide (((faults.getD i.toNat default).Index) < ((faults.getD (IntKind.i64.wrap (i - 1)).toNat default).Index)))) && (((faults.getD (IntKind.i64.wrap (i - 1)).toNat default).Index) == ((faults.getD i.toNat default).Index))) || ixOk (IntKind.i64.wrap (i - 1)) faults.length) <|
        if ((decide (0 < i)) && ((decide (((faults.getD i.toNat default).Index) < ((faults.getD (IntKind.i64.wrap (i - 1)).toNat default).Index))) || ((((faults.getD (IntKind.i64.wrap (i - 1)).toNat default).Index) == ((faults.getD i.toNat default).Index)) && (decide (((faults.getD i.toNat default).Kind) ≤ ((faults.getD (IntKind.i64.wrap (i - 1)).toNat default).Kind)))))) then
          some (.inr (.inr false))
        else
          some (.inl (IntKind.i64.wrap (i + 1)))
    else
      some (.inr (.inl ()))

/-- spec.l26Faults -/
noncomputable def spec_l26Faults (faults : List Fault) (count : Int) : Option Bool :=
  (whileE (spec_l26Faults_l1 faults count) 0).bind fun y_10 =>
  match y_10 with
  | .inl y_10a =>
    some true
  | .inr y_10b =>
    some y_10b

/-- spec.l26Code -/
noncomputable def spec_l26Code (list : List Estimate) (faults : List Fault) : Option Int :=
  (spec_l06Ok list).bind fun y_1 =>
  if (!y_1) then
    some 1
  else
    (spec_l26Faults faults (list.length : Int)).bind fun y_3 =>
    if (!y_3) then
      some 2
    else
      some 0

noncomputable def spec_l06PutName_l1 (list : List (List UInt8)) (name : List UInt8) : Int → Option (Int ⊕ Int)
  | k =>
    ck (!(decide (0 < k)) || ixOk (IntKind.i64.wrap (k - 1)) list.length) <|
    if ((decide (0 < k)) && (!(Op.bytesLess (list.getD (IntKind.i64.wrap (k - 1)).toNat default) name || (list.getD (IntKind.i64.wrap (k - 1)).toNat default) == name))) then
      some (.inl (IntKind.i64.wrap (k - 1)))
    else
      some (.inr k)

/-- spec.l06PutName -/
noncomputable def spec_l06PutName (list : List (List UInt8)) (name : List UInt8) : Option (List (List UInt8)) :=
  (whileE (spec_l06PutName_l1 list name) (list.length : Int)).bind fun y_3 =>
  ck (!(decide (0 < y_3)) || ixOk (IntKind.i64.wrap (y_3 - 1)) list.length) <|
  if ((decide (0 < y_3)) && ((list.getD (IntKind.i64.wrap (y_3 - 1)).toNat default) == name)) then
    some list
  else
    ck (cutOk 0 y_3 list.length) <|
    ck (appOk (([] : List (List UInt8)).length + (cut list 0 y_3).length) 16) <|
    ck (appOk ((([] : List (List UInt8)) ++ (cut list 0 y_3)).length + ([name] : List (List UInt8)).length) 16) <|
    ck (cutOk y_3 (list.length : Int) list.length) <|
    ck (appOk (((([] : List (List UInt8)) ++ (cut list 0 y_3)) ++ ([name] : List (List UInt8))).length + (cut list y_3 (list.length : Int)).length) 16) <|
    some (((([] : List (List UInt8)) ++ (cut list 0 y_3)) ++ ([name] : List (List UInt8))) ++ (cut list y_3 (list.length : Int)))

noncomputable def spec_l25Names_l1 (list : List Estimate) (star : Bool) : ((List (List UInt8)) × Int) → Option (((List (List UInt8)) × Int) ⊕ (List (List UInt8)))
  | (out, i) =>
    if (decide (i < (list.length : Int))) then
      if star then
        ck (ixOk i list.length) <|
        (spec_l06PutName out ((list.getD i.toNat default).Star)).bind fun y_4 =>
        some (.inl (y_4, (IntKind.i64.wrap (i + 1))))
      else
        ck (ixOk i list.length) <|
        (spec_l06PutName out ((list.getD i.toNat default).Observer)).bind fun y_6 =>
        some (.inl (y_6, (IntKind.i64.wrap (i + 1))))
    else
      some (.inr out)

/-- spec.l25Names -/
noncomputable def spec_l25Names (list : List Estimate) (star : Bool) : Option (List (List UInt8)) :=
  (whileE (spec_l25Names_l1 list star) (([] : List (List UInt8)), 0)).bind fun y_7 =>
  some y_7

noncomputable def spec_l25Find_l1 (list : List (List UInt8)) (name : List UInt8) : Int → Option (Int ⊕ (Unit ⊕ Int))
  | i =>
    if (decide (i < (list.length : Int))) then
      ck (ixOk i list.length) <|
      if ((list.getD i.toNat default) == name) then
        some (.inr (.inr i))
      else
        some (.inl (IntKind.i64.wrap (i + 1)))
    else
      some (.inr (.inl ()))

/-- spec.l25Find -/
noncomputable def spec_l25Find (list : List (List UInt8)) (name : List UInt8) : Option Int :=
  (whileE (spec_l25Find_l1 list name) 0).bind fun y_4 =>
  match y_4 with
  | .inl y_4a =>
    some (-1)
  | .inr y_4b =>
    some y_4b

noncomputable def spec_l26Has_l1 (faults : List Fault) (index : Int) : Int → Option (Int ⊕ (Unit ⊕ Bool))
  | i =>
    if (decide (i < (faults.length : Int))) then
      ck (ixOk i faults.length) <|
      if (((faults.getD i.toNat default).Index) == index) then
        some (.inr (.inr true))
      else
        some (.inl (IntKind.i64.wrap (i + 1)))
    else
      some (.inr (.inl ()))

/-- spec.l26Has -/
noncomputable def spec_l26Has (faults : List Fault) (index : Int) : Option Bool :=
  (whileE (spec_l26Has_l1 faults index) 0).bind fun y_4 =>
  match y_4 with
  | .inl y_4a =>
    some false
  | .inr y_4b =>
    some y_4b

noncomputable def spec_l26Shares_l1 (list : List Estimate) (faults : List Fault) (names : List (List UInt8)) : ((List Int) × (List Int) × Int) → Option (((List Int) × (List Int) × Int) ⊕ ((List Int) × (List Int)))
  | (bad, all, i) =>
    if (decide (i < (list.length : Int))) then
      ck (ixOk i list.length) <|
      (spec_l25Find names ((list.getD i.toNat default).Observer)).bind fun y_5 =>
      ck (ixOk y_5 all.length) <|
      (spec_l26Has faults i).bind fun y_7 =>
      if y_7 then
        ck (ixOk y_5 bad.length) <|
        some (.inl ((bad.set y_5.toNat (IntKind.i64.wrap ((bad.getD y_5.toNat default) + 1))), (all.set y_5.toNat (IntKind.i64.wrap ((all.getD y_5.toNat default) + 1))), (IntKind.i64.wrap (i + 1))))
      else
        some (.inl (bad, (all.set y_5.toNat (IntKind.i64.wrap ((all.getD y_5.toNat default) + 1))), (IntKind.i64.wrap (i + 1))))
    else
      some (.inr (bad, all))

/-- spec.l26Shares -/
noncomputable def spec_l26Shares (list : List Estimate) (faults : List Fault) : Option ((List (List UInt8)) × (List Int) × (List Int)) :=
  (spec_l25Names list false).bind fun y_1 =>
  ck (mkOk (y_1.length : Int) 8) <|
  (whileE (spec_l26Shares_l1 list faults y_1) ((List.replicate (y_1.length : Int).toNat 0), (List.replicate (y_1.length : Int).toNat 0), 0)).bind fun y_10 =>
  some (y_1, y_10.1, y_10.2)

noncomputable def spec_WorstObserver_l1 (names : List (List UInt8)) (bad : List Int) (all : List Int) : (Int × Int) → Option ((Int × Int) ⊕ Int)
  | (best, i) =>
    if (decide (i < (names.length : Int))) then
      ck (ixOk i bad.length) <|
      ck (!((decide (0 < (bad.getD i.toNat default))) && !(decide (best < 0))) || ixOk best all.length) <|
      ck (!((decide (0 < (bad.getD i.toNat default))) && !(decide (best < 0))) || ixOk best bad.length) <|
      ck (!((decide (0 < (bad.getD i.toNat default))) && !(decide (best < 0))) || ixOk i all.length) <|
      if ((decide (0 < (bad.getD i.toNat default))) && ((decide (best < 0)) || (decide ((IntKind.i64.wrap ((bad.getD best.toNat default) * (all.getD i.toNat default))) < (IntKind.i64.wrap ((bad.getD i.toNat default) * (all.getD best.toNat default))))))) then
        some (.inl (i, (IntKind.i64.wrap (i + 1))))
      else
        some (.inl (best, (IntKind.i64.wrap (i + 1))))
    else
      some (.inr best)

/-- spec.WorstObserver -/
noncomputable def spec_WorstObserver (list : List Estimate) (faults : List Fault) : Option ((List UInt8) × Int) :=
  (spec_l26Code list faults).bind fun y_1 =>
  if (!(y_1 == 0)) then
    some (([] : List UInt8), y_1)
  else
    (spec_l26Shares list faults).bind fun y_3 =>
    (whileE (spec_WorstObserver_l1 y_3.1 y_3.2.1 y_3.2.2) ((-1), 0)).bind fun y_10 =>
    if (decide (y_10 < 0)) then
      some (([] : List UInt8), 3)
    else
      ck (ixOk y_10 y_3.1.length) <|
      some ((y_3.1.getD y_10.toNat default), 0)

/-- impl.in -/
noncomputable def impl_in (n : Int) (low : Int) (high : Int) : Option Bool :=
  some ((decide (low ≤ n)) && (decide (n ≤ high)))

/-- impl.ValidTime -/
noncomputable def impl_ValidTime (t : Int) : Option Bool :=
  (impl_in t 0 10000000).bind fun y_1 =>
  some y_1

noncomputable def impl_IsName_l1 (s_ : List UInt8) (t15 : Int) : Int → Option (Int ⊕ (Unit ⊕ Bool))
  | t16 =>
    if (decide (t16 < t15)) then
      ck (ixOk t16 s_.length) <|
      if ((!((decide (97 ≤ ((s_.getD t16.toNat 0).toNat : Int))) && (decide (((s_.getD t16.toNat 0).toNat : Int) ≤ 122)))) && ((t16 == 0) || (!(((decide (48 ≤ ((s_.getD t16.toNat 0).toNat : Int))) && (decide (((s_.getD t16.toNat 0).toNat : Int) ≤ 57))) || (((s_.getD t16.toNat 0).toNat : Int) == 45))))) then
        some (.inr (.inr false))
      else
        some (.inl (IntKind.i64.wrap (t16 + 1)))
    else
      some (.inr (.inl ()))

/-- impl.IsName -/
noncomputable def impl_IsName (s_ : List UInt8) : Option Bool :=
  if ((decide ((s_.length : Int) < 1)) || (decide (12 < (s_.length : Int)))) then
    some false
  else
    (whileE (impl_IsName_l1 s_ (s_.length : Int)) 0).bind fun y_5 =>
    match y_5 with
    | .inl y_5a =>
      some true
    | .inr y_5b =>
      some y_5b

/-- impl.ValidMag -/
noncomputable def impl_ValidMag (m : Int) : Option Bool :=
  (impl_in m (-2000) 20000).bind fun y_1 =>
  some y_1

/-- impl.isEstimate -/
noncomputable def impl_isEstimate (e_ : Estimate) : Option Bool :=
  (impl_ValidTime e_.Time).bind fun y_1 =>
  ck (!y_1 || (impl_IsName e_.Star).isSome) <|
  ck (!(y_1 && ((impl_IsName e_.Star).getD default)) || (impl_IsName e_.Observer).isSome) <|
  ck (!((y_1 && ((impl_IsName e_.Star).getD default)) && ((impl_IsName e_.Observer).getD default)) || (impl_ValidMag e_.Mag).isSome) <|
  some (((y_1 && ((impl_IsName e_.Star).getD default)) && ((impl_IsName e_.Observer).getD default)) && ((impl_ValidMag e_.Mag).getD default))

/-- cmp.isNaN[int64] -/
noncomputable def cmp_isNaN_int64 (x : Int) : Option Bool :=
  some (!(x == x))

/-- cmp.Compare[int64] -/
noncomputable def cmp_Compare_int64 (x : Int) (y : Int) : Option Int :=
  (cmp_isNaN_int64 x).bind fun y_1 =>
  (cmp_isNaN_int64 y).bind fun y_2 =>
  if y_1 then
    if y_2 then
      some 0
    else
      some (-1)
  else
    if y_2 then
      some 1
    else
      if (decide (x < y)) then
        some (-1)
      else
        if (decide (y < x)) then
          some 1
        else
          some 0


/-- internal/bytealg.CompareString -/
noncomputable def internal_bytealg_CompareString (a : List UInt8) (b : List UInt8) : Option Int :=
  (hCmp a b).bind fun y_1 =>
  some y_1

/-- strings.Compare -/
noncomputable def strings_Compare (a : List UInt8) (b : List UInt8) : Option Int :=
  (internal_bytealg_CompareString a b).bind fun y_1 =>
  some y_1

noncomputable def cmp_Or_int_l1 (zero : Int) (t6 : List Int) (t7 : Int) : Int → Option (Int ⊕ (Unit ⊕ Int))
  | t8 =>
    if (decide (t8 < t7)) then
      ck (ixOk t8 t6.length) <|
      if (!((t6.getD t8.toNat default) == zero)) then
        some (.inr (.inr (t6.getD t8.toNat default)))
      else
        some (.inl (IntKind.i64.wrap (t8 + 1)))
    else
      some (.inr (.inl ()))

/-- cmp.Or[int] -/
noncomputable def cmp_Or_int (vals : List Int) : Option Int :=
  (whileE (cmp_Or_int_l1 0 vals (vals.length : Int)) 0).bind fun y_4 =>
  match y_4 with
  | .inl y_4a =>
    some 0
  | .inr y_4b =>
    some y_4b

/-- impl.compareEstimates -/
noncomputable def impl_compareEstimates (a : Estimate) (b : Estimate) : Option Int :=
  (cmp_Compare_int64 a.Time b.Time).bind fun y_1 =>
  (strings_Compare a.Star b.Star).bind fun y_2 =>
  (strings_Compare a.Observer b.Observer).bind fun y_3 =>
  (cmp_Or_int ([y_1, y_2, y_3] : List Int)).bind fun y_4 =>
  some y_4

noncomputable def impl_ValidEstimates_l1 (list : List Estimate) (t8 : List Estimate) (t9 : Int) : Int → Option (Int ⊕ (Unit ⊕ Bool))
  | t10 =>
    if (decide (t10 < t9)) then
      ck (ixOk t10 t8.length) <|
      (impl_isEstimate (t8.getD t10.toNat default)).bind fun y_4 =>
      ck (!((!(!y_4)) && (decide (0 < t10))) || ixOk (IntKind.i64.wrap (t10 - 1)) list.length) <|
      ck (!((!(!y_4)) && (decide (0 < t10))) || (impl_compareEstimates (list.getD (IntKind.i64.wrap (t10 - 1)).toNat default) (t8.getD t10.toNat default)).isSome) <|
      if ((!y_4) || ((decide (0 < t10)) && (decide (0 ≤ ((impl_compareEstimates (list.getD (IntKind.i64.wrap (t10 - 1)).toNat default) (t8.getD t10.toNat default)).getD default))))) then
        some (.inr (.inr false))
      else
        some (.inl (IntKind.i64.wrap (t10 + 1)))
    else
      some (.inr (.inl ()))

/-- impl.ValidEstimates -/
noncomputable def impl_ValidEstimates (list : List Estimate) : Option Bool :=
  if (decide (100 < (list.length : Int))) then
    some false
  else
    (whileE (impl_ValidEstimates_l1 list list (list.length : Int)) 0).bind fun y_8 =>
    match y_8 with
    | .inl y_8a =>
      some true
    | .inr y_8b =>
      some y_8b

/-- impl.count[impl.Estimate] -/
noncomputable def impl_count_impl_Estimate (list : List Estimate) : Option Int :=
  some (list.length : Int)

noncomputable def impl_ordered_l1 (faults : List Fault) (estimates : Int) (t7 : List Fault) (t8 : Int) : Int → Option (Int ⊕ (Unit ⊕ Bool))
  | t9 =>
    if (decide (t9 < t8)) then
      ck (ixOk t9 t7.length) <|
      (impl_in ((t7.getD t9.toNat default).Index) 0 (IntKind.i64.wrap (estimates - 1))).bind fun y_3 =>
      ck (!(!(!y_3)) || (impl_in ((t7.getD t9.toNat default).Kind) 1 5).isSome) <|
      if ((!y_3) || (!((impl_in ((t7.getD t9.toNat default).Kind) 1 5).getD default))) then
        some (.inr (.inr false))
      else
        ck (!(decide (0 < t9)) || ixOk (IntKind.i64.wrap (t9 - 1)) faults.length) <|
        ck (!((decide (0 < t9)) && !(decide (((t7.getD t9.toNat default).Index) < ((faults.getD (IntKind.i64.wrap (t9 - 1)).toNat default).Index)))) || ixOk (IntKind.i64.wrap (t9 - 1)) faults.length) <|
        ck (!(((decide (0 < t9)) && !(decide (((t7.getD t9.toNat default).Index) < ((faults.getD (IntKind.i64.wrap (t9 - 1)).toNat default).Index)))) && (((faults.getD (IntKind.i64.wrap (t9 - 1)).toNat default).Index) == ((t7.getD t9.toNat default).Index))) || ixOk (IntKind.i64.wrap (t9 - 1)) faults.length) <|
        if ((decide (0 < t9)) && ((decide (((t7.getD t9.toNat default).Index) < ((faults.getD (IntKind.i64.wrap (t9 - 1)).toNat default).Index))) || ((((faults.getD (IntKind.i64.wrap (t9 - 1)).toNat default).Index) == ((t7.getD t9.toNat default).Index)) && (decide (((t7.getD t9.toNat default).Kind) ≤ ((faults.getD (IntKind.i64.wrap (t9 - 1)).toNat default).Kind)))))) then
          some (.inr (.inr false))
        else
          some (.inl (IntKind.i64.wrap (t9 + 1)))
    else
      some (.inr (.inl ()))

/-- impl.ordered -/
noncomputable def impl_ordered (faults : List Fault) (estimates : Int) : Option Bool :=
  (whileE (impl_ordered_l1 faults estimates faults (faults.length : Int)) 0).bind fun y_10 =>
  match y_10 with
  | .inl y_10a =>
    some true
  | .inr y_10b =>
    some y_10b

/-- impl.audited -/
noncomputable def impl_audited (list : List Estimate) (faults : List Fault) : Option Int :=
  (impl_ValidEstimates list).bind fun y_1 =>
  if (!y_1) then
    some 1
  else
    (impl_count_impl_Estimate list).bind fun y_3 =>
    (impl_ordered faults y_3).bind fun y_4 =>
    if (!y_4) then
      some 2
    else
      some 0

/-- impl.observerOf -/
noncomputable def impl_observerOf (e_ : Estimate) : Option (List UInt8) :=
  some e_.Observer



noncomputable def impl_namesOf__impl_observerOf_l1 (t9 : List Estimate) (t10 : Int) : ((List (List UInt8)) × Int) → Option (((List (List UInt8)) × Int) ⊕ (List (List UInt8)))
  | (out, t11) =>
    if (decide (t11 < t10)) then
      ck (ixOk t11 t9.length) <|
      (impl_observerOf (t9.getD t11.toNat default)).bind fun y_3 =>
      ck (appOk (out.length + ([y_3] : List (List UInt8)).length) 16) <|
      some (.inl ((out ++ ([y_3] : List (List UInt8))), (IntKind.i64.wrap (t11 + 1))))
    else
      some (.inr out)

/-- impl.namesOf -/
noncomputable def impl_namesOf__impl_observerOf (list : List Estimate) : Option (List (List UInt8)) :=
  (whileE (impl_namesOf__impl_observerOf_l1 list (list.length : Int)) (([] : List (List UInt8)), 0)).bind fun y_5 =>
  (hSort y_5).bind fun y_6 =>
  (hCompact y_6).bind fun y_7 =>
  some y_7

/-- impl.isFaulty$1 -/
noncomputable def impl_isFaulty_c1 (x : Fault) (t1 : Int) : Option Bool :=
  some (x.Index == t1)

noncomputable def slices_IndexFunc_impl_Fault_impl_Fault__impl_isFaulty_c1_l1 (s_ : List Fault) (c : Int) (t7 : Int) : Int → Option (Int ⊕ (Unit ⊕ Int))
  | t8 =>
    if (decide (t8 < t7)) then
      ck (ixOk t8 s_.length) <|
      (impl_isFaulty_c1 (s_.getD t8.toNat default) c).bind fun y_3 =>
      if y_3 then
        some (.inr (.inr t8))
      else
        some (.inl (IntKind.i64.wrap (t8 + 1)))
    else
      some (.inr (.inl ()))

/-- slices.IndexFunc[[]impl.Fault,impl.Fault] -/
noncomputable def slices_IndexFunc_impl_Fault_impl_Fault__impl_isFaulty_c1 (s_ : List Fault) (f_c0 : Int) : Option Int :=
  (whileE (slices_IndexFunc_impl_Fault_impl_Fault__impl_isFaulty_c1_l1 s_ f_c0 (s_.length : Int)) 0).bind fun y_5 =>
  match y_5 with
  | .inl y_5a =>
    some (-1)
  | .inr y_5b =>
    some y_5b

/-- slices.ContainsFunc[[]impl.Fault,impl.Fault] -/
noncomputable def slices_ContainsFunc_impl_Fault_impl_Fault__impl_isFaulty_c1 (s_ : List Fault) (f_c0 : Int) : Option Bool :=
  (slices_IndexFunc_impl_Fault_impl_Fault__impl_isFaulty_c1 s_ f_c0).bind fun y_1 =>
  some (decide (0 ≤ y_1))

/-- impl.isFaulty -/
noncomputable def impl_isFaulty (faults : List Fault) (i : Int) : Option Bool :=
  (slices_ContainsFunc_impl_Fault_impl_Fault__impl_isFaulty_c1 faults i).bind fun y_1 =>
  some y_1

/-- impl.abs -/
noncomputable def impl_abs (n : Int) : Option Int :=
  if (decide (n < 0)) then
    some (IntKind.i64.wrap (0 - n))
  else
    some n

noncomputable def impl_gcd_l1  : (Int × Int) → Option ((Int × Int) ⊕ Int)
  | (a, b) =>
    if (!(b == 0)) then
      ck (nz b) <|
      some (.inl (b, (a.tmod b)))
    else
      some (.inr a)

/-- impl.gcd -/
noncomputable def impl_gcd (a : Int) (b : Int) : Option Int :=
  (whileE (impl_gcd_l1) (a, b)).bind fun y_3 =>
  (impl_abs y_3).bind fun y_4 =>
  some y_4

/-- impl.lowest -/
noncomputable def impl_lowest (num : Int) (den : Int) : Option Fraction :=
  (impl_gcd num den).bind fun y_1 =>
  if (decide (den < 0)) then
    ck (nz (IntKind.i64.wrap (0 - y_1))) <|
    some (Fraction.mk (IntKind.i64.wrap (num.tdiv (IntKind.i64.wrap (0 - y_1)))) (IntKind.i64.wrap (den.tdiv (IntKind.i64.wrap (0 - y_1)))))
  else
    ck (nz y_1) <|
    some (Fraction.mk (IntKind.i64.wrap (num.tdiv y_1)) (IntKind.i64.wrap (den.tdiv y_1)))

noncomputable def impl_faultShares_l2 (list : List Estimate) (faults : List Fault) (names : List (List UInt8)) (shares : List Fraction) (name : List UInt8) (t18 : Int) (t19 : Int) (t23 : List Estimate) (t24 : Int) : (Int × Int × Int) → Option ((Int × Int × Int) ⊕ (Int × Int))
  | (faulty, all, t25) =>
    if (decide (t25 < t24)) then
      ck (ixOk t25 t23.length) <|
      if (!(((t23.getD t25.toNat default).Observer) == name)) then
        some (.inl (faulty, all, (IntKind.i64.wrap (t25 + 1))))
      else
        (impl_isFaulty faults t25).bind fun y_7 =>
        if y_7 then
          some (.inl ((IntKind.i64.wrap (faulty + 1)), (IntKind.i64.wrap (all + 1)), (IntKind.i64.wrap (t25 + 1))))
        else
          some (.inl (faulty, (IntKind.i64.wrap (all + 1)), (IntKind.i64.wrap (t25 + 1))))
    else
      some (.inr (faulty, all))

noncomputable def impl_faultShares_l1 (list : List Estimate) (faults : List Fault) (names : List (List UInt8)) (t18 : Int) : ((List Fraction) × Int) → Option (((List Fraction) × Int) ⊕ (List Fraction))
  | (shares, t19) =>
    if (decide (t19 < t18)) then
      ck (ixOk t19 names.length) <|
      (whileE (impl_faultShares_l2 list faults names shares (names.getD t19.toNat default) t18 t19 list (list.length : Int)) (0, 0, 0)).bind fun y_9 =>
      (impl_lowest y_9.1 y_9.2).bind fun y_10 =>
      ck (appOk (shares.length + ([y_10] : List Fraction).length) 16) <|
      some (.inl ((shares ++ ([y_10] : List Fraction)), (IntKind.i64.wrap (t19 + 1))))
    else
      some (.inr shares)

/-- impl.faultShares -/
noncomputable def impl_faultShares (list : List Estimate) (faults : List Fault) : Option ((List (List UInt8)) × (List Fraction)) :=
  (impl_namesOf__impl_observerOf list).bind fun y_1 =>
  (whileE (impl_faultShares_l1 list faults y_1 (y_1.length : Int)) (([] : List Fraction), 0)).bind fun y_12 =>
  some (y_1, y_12)

/-- (impl.Fraction).less -/
noncomputable def impl_Fraction_less (f : Fraction) (g : Fraction) : Option Bool :=
  some (decide ((IntKind.i64.wrap (f.Num * g.Den)) < (IntKind.i64.wrap (g.Num * f.Den))))

noncomputable def impl_WorstObserver_l1 (names : List (List UInt8)) (t26 : List Fraction) (t27 : Int) : ((List UInt8) × Fraction × Int) → Option (((List UInt8) × Fraction × Int) ⊕ ((List UInt8) × Fraction))
  | (worst, most, t28) =>
    if (decide (t28 < t27)) then
      ck (ixOk t28 t26.length) <|
      (impl_Fraction_less most (t26.getD t28.toNat default)).bind fun y_6 =>
      if y_6 then
        ck (ixOk t28 names.length) <|
        some (.inl ((names.getD t28.toNat default), (t26.getD t28.toNat default), (IntKind.i64.wrap (t28 + 1))))
      else
        some (.inl (worst, most, (IntKind.i64.wrap (t28 + 1))))
    else
      some (.inr (worst, most))

/-- impl.WorstObserver -/
noncomputable def impl_WorstObserver (list : List Estimate) (faults : List Fault) : Option ((List UInt8) × Int) :=
  (impl_audited list faults).bind fun y_1 =>
  if (!(y_1 == 0)) then
    some (([] : List UInt8), y_1)
  else
    (impl_faultShares list faults).bind fun y_3 =>
    (whileE (impl_WorstObserver_l1 y_3.1 y_3.2 (y_3.2.length : Int)) (([] : List UInt8), (Fraction.mk 0 1), 0)).bind fun y_9 =>
    if (y_9.2.Num == 0) then
      some (([] : List UInt8), 3)
    else
      some (y_9.1, 0)

/-- laws.eqEstimate -/
noncomputable def laws_eqEstimate (a : Estimate) (b : Estimate) : Option Bool :=
  if (!(a.Time == b.Time)) then
    some false
  else
    if (!(a.Star == b.Star)) then
      some false
    else
      if (!(a.Observer == b.Observer)) then
        some false
      else
        if (!(a.Mag == b.Mag)) then
          some false
        else
          if (!(a.Fainter == b.Fainter)) then
            some false
          else
            some true

noncomputable def laws_eqEstimateS_l1 (a : List Estimate) (b : List Estimate) : Int → Option (Int ⊕ (Unit ⊕ Bool))
  | i =>
    if (decide (i < (a.length : Int))) then
      ck (ixOk i a.length) <|
      ck (ixOk i b.length) <|
      (laws_eqEstimate (a.getD i.toNat default) (b.getD i.toNat default)).bind fun y_5 =>
      if (!y_5) then
        some (.inr (.inr false))
      else
        some (.inl (IntKind.i64.wrap (i + 1)))
    else
      some (.inr (.inl ()))

/-- laws.eqEstimateS -/
noncomputable def laws_eqEstimateS (a : List Estimate) (b : List Estimate) : Option Bool :=
  if (!((a.length : Int) == (b.length : Int))) then
    some false
  else
    (whileE (laws_eqEstimateS_l1 a b) 0).bind fun y_7 =>
    match y_7 with
    | .inl y_7a =>
      some true
    | .inr y_7b =>
      some y_7b

/-- laws.eqFault -/
noncomputable def laws_eqFault (a : Fault) (b : Fault) : Option Bool :=
  if (!(a.Index == b.Index)) then
    some false
  else
    if (!(a.Kind == b.Kind)) then
      some false
    else
      some true

noncomputable def laws_eqFaultS_l1 (a : List Fault) (b : List Fault) : Int → Option (Int ⊕ (Unit ⊕ Bool))
  | i =>
    if (decide (i < (a.length : Int))) then
      ck (ixOk i a.length) <|
      ck (ixOk i b.length) <|
      (laws_eqFault (a.getD i.toNat default) (b.getD i.toNat default)).bind fun y_5 =>
      if (!y_5) then
        some (.inr (.inr false))
      else
        some (.inl (IntKind.i64.wrap (i + 1)))
    else
      some (.inr (.inl ()))

/-- laws.eqFaultS -/
noncomputable def laws_eqFaultS (a : List Fault) (b : List Fault) : Option Bool :=
  if (!((a.length : Int) == (b.length : Int))) then
    some false
  else
    (whileE (laws_eqFaultS_l1 a b) 0).bind fun y_7 =>
    match y_7 with
    | .inl y_7a =>
      some true
    | .inr y_7b =>
      some y_7b

/-- laws.FnExactWorstObserver -/
noncomputable def laws_FnExactWorstObserver (aList : List Estimate) (aFaults : List Fault) : Option Bool :=
  (laws_szEstimateS aList 1048576).bind fun y_1 =>
  if (decide (y_1 < 0)) then
    some true
  else
    (laws_szFaultS aFaults y_1).bind fun y_3 =>
    if (decide (y_3 < 0)) then
      some true
    else
      (laws_toEstimateS aList).bind fun y_5 =>
      (laws_toFaultS aFaults).bind fun y_6 =>
      (spec_WorstObserver y_5 y_6).bind fun y_7 =>
      (impl_WorstObserver y_5 y_6).bind fun y_8 =>
      if ((!(y_8.1 == y_7.1)) || (!(y_8.2 == y_7.2))) then
        some false
      else
        (laws_eqEstimateS y_5 y_5).bind fun y_10 =>
        if (!y_10) then
          some false
        else
          (laws_eqFaultS y_6 y_6).bind fun y_12 =>
          if (!y_12) then
            some false
          else
            some true

/-- spec.l02Size -/
noncomputable def spec_l02Size (n : Int) : Option Int :=
  if (decide (n < 0)) then
    some (IntKind.i64.wrap (0 - n))
  else
    some n

noncomputable def spec_l02Gcd_l1  : (Int × Int) → Option ((Int × Int) ⊕ Int)
  | (a, b) =>
    if (!(b == 0)) then
      ck (nz b) <|
      some (.inl (b, (a.tmod b)))
    else
      some (.inr a)

/-- spec.l02Gcd -/
noncomputable def spec_l02Gcd (a : Int) (b : Int) : Option Int :=
  (whileE (spec_l02Gcd_l1) (a, b)).bind fun y_3 =>
  some y_3

/-- spec.l02Make -/
noncomputable def spec_l02Make (num : Int) (den : Int) : Option Fraction :=
  (spec_l02Size num).bind fun y_1 =>
  (spec_l02Gcd y_1 den).bind fun y_2 =>
  ck (nz y_2) <|
  some (Fraction.mk (IntKind.i64.wrap (num.tdiv y_2)) (IntKind.i64.wrap (den.tdiv y_2)))

noncomputable def spec_FaultShares_l1 (names : List (List UInt8)) (bad : List Int) (all : List Int) : ((List Fraction) × Int) → Option (((List Fraction) × Int) ⊕ (List Fraction))
  | (out, i) =>
    if (decide (i < (names.length : Int))) then
      ck (ixOk i bad.length) <|
      ck (ixOk i all.length) <|
      (spec_l02Make (bad.getD i.toNat default) (all.getD i.toNat default)).bind fun y_7 =>
      ck (appOk (out.length + ([y_7] : List Fraction).length) 16) <|
      some (.inl ((out ++ ([y_7] : List Fraction)), (IntKind.i64.wrap (i + 1))))
    else
      some (.inr out)

/-- spec.FaultShares -/
noncomputable def spec_FaultShares (list : List Estimate) (faults : List Fault) : Option ((List Fraction) × Int) :=
  (spec_l26Code list faults).bind fun y_1 =>
  if (!(y_1 == 0)) then
    some (([] : List Fraction), y_1)
  else
    (spec_l26Shares list faults).bind fun y_3 =>
    (whileE (spec_FaultShares_l1 y_3.1 y_3.2.1 y_3.2.2) (([] : List Fraction), 0)).bind fun y_9 =>
    some (y_9, 0)

/-- impl.FaultShares -/
noncomputable def impl_FaultShares (list : List Estimate) (faults : List Fault) : Option ((List Fraction) × Int) :=
  (impl_audited list faults).bind fun y_1 =>
  if (!(y_1 == 0)) then
    some (([] : List Fraction), y_1)
  else
    (impl_faultShares list faults).bind fun y_3 =>
    some (y_3.2, 0)

/-- laws.eqFraction -/
noncomputable def laws_eqFraction (a : Fraction) (b : Fraction) : Option Bool :=
  if (!(a.Num == b.Num)) then
    some false
  else
    if (!(a.Den == b.Den)) then
      some false
    else
      some true

noncomputable def laws_eqFractionS_l1 (a : List Fraction) (b : List Fraction) : Int → Option (Int ⊕ (Unit ⊕ Bool))
  | i =>
    if (decide (i < (a.length : Int))) then
      ck (ixOk i a.length) <|
      ck (ixOk i b.length) <|
      (laws_eqFraction (a.getD i.toNat default) (b.getD i.toNat default)).bind fun y_5 =>
      if (!y_5) then
        some (.inr (.inr false))
      else
        some (.inl (IntKind.i64.wrap (i + 1)))
    else
      some (.inr (.inl ()))

/-- laws.eqFractionS -/
noncomputable def laws_eqFractionS (a : List Fraction) (b : List Fraction) : Option Bool :=
  if (!((a.length : Int) == (b.length : Int))) then
    some false
  else
    (whileE (laws_eqFractionS_l1 a b) 0).bind fun y_7 =>
    match y_7 with
    | .inl y_7a =>
      some true
    | .inr y_7b =>
      some y_7b

noncomputable def laws_markText_l1  : (Int × (List UInt8)) → Option ((Int × (List UInt8)) ⊕ (List UInt8))
  | (k, out) =>
    if (decide (0 < k)) then
      ck (nz 10) <|
      ck (catOk ([(toU8 (IntKind.u8.wrap (IntKind.i64.wrap (48 + (k.tmod 10)))))] : List UInt8).length out.length) <|
      some (.inl ((IntKind.i64.wrap (k.tdiv 10)), (([(toU8 (IntKind.u8.wrap (IntKind.i64.wrap (48 + (k.tmod 10)))))] : List UInt8) ++ out)))
    else
      some (.inr out)

/-- laws.markText -/
noncomputable def laws_markText (k : Int) : Option (List UInt8) :=
  if (decide (k ≤ 0)) then
    some ([109, 48] : List UInt8)
  else
    (whileE (laws_markText_l1) (k, ([] : List UInt8))).bind fun y_5 =>
    ck (catOk ([109] : List UInt8).length y_5.length) <|
    some (([109] : List UInt8) ++ y_5)

noncomputable def laws_markEstimateS_l1  : ((List Estimate) × Int × Int) → Option (((List Estimate) × Int × Int) ⊕ ((List Estimate) × Int))
  | (a, k, i) =>
    if (decide (i < (a.length : Int))) then
      ck (ixOk i a.length) <|
      (laws_markText (IntKind.i64.wrap (k + 1))).bind fun y_3 =>
      (laws_markText (IntKind.i64.wrap ((IntKind.i64.wrap (k + 1)) + 1))).bind fun y_4 =>
      ck (nz 3) <|
      some (.inl ((a.set i.toNat (Estimate.mk k y_3 y_4 (IntKind.i64.wrap ((IntKind.i64.wrap ((IntKind.i64.wrap (k + 1)) + 1)) + 1)) (((IntKind.i64.wrap ((IntKind.i64.wrap ((IntKind.i64.wrap ((IntKind.i64.wrap (k + 1)) + 1)) + 1)) + 1)).tmod 3) == 0))), (IntKind.i64.wrap ((IntKind.i64.wrap ((IntKind.i64.wrap ((IntKind.i64.wrap ((IntKind.i64.wrap (k + 1)) + 1)) + 1)) + 1)) + 1)), (IntKind.i64.wrap (i + 1))))
    else
      some (.inr (a, k))

/-- laws.markEstimateS -/
noncomputable def laws_markEstimateS (a : List Estimate) (k : Int) : Option (Int × (List Estimate)) :=
  (whileE (laws_markEstimateS_l1) (a, k, 0)).bind fun y_6 =>
  ck (y_6.1.length == a.length) <|
  some (y_6.2, y_6.1)

noncomputable def laws_markFaultS_l1  : ((List Fault) × Int × Int) → Option (((List Fault) × Int × Int) ⊕ ((List Fault) × Int))
  | (a, k, i) =>
    if (decide (i < (a.length : Int))) then
      ck (ixOk i a.length) <|
      some (.inl ((a.set i.toNat (Fault.mk k (IntKind.i64.wrap (k + 1)))), (IntKind.i64.wrap ((IntKind.i64.wrap (k + 1)) + 1)), (IntKind.i64.wrap (i + 1))))
    else
      some (.inr (a, k))

/-- laws.markFaultS -/
noncomputable def laws_markFaultS (a : List Fault) (k : Int) : Option (Int × (List Fault)) :=
  (whileE (laws_markFaultS_l1) (a, k, 0)).bind fun y_3 =>
  ck (y_3.1.length == a.length) <|
  some (y_3.2, y_3.1)

noncomputable def laws_markFractionS_l1  : ((List Fraction) × Int × Int) → Option (((List Fraction) × Int × Int) ⊕ ((List Fraction) × Int))
  | (a, k, i) =>
    if (decide (i < (a.length : Int))) then
      ck (ixOk i a.length) <|
      some (.inl ((a.set i.toNat (Fraction.mk k (IntKind.i64.wrap (k + 1)))), (IntKind.i64.wrap ((IntKind.i64.wrap (k + 1)) + 1)), (IntKind.i64.wrap (i + 1))))
    else
      some (.inr (a, k))

/-- laws.markFractionS -/
noncomputable def laws_markFractionS (a : List Fraction) (k : Int) : Option (Int × (List Fraction)) :=
  (whileE (laws_markFractionS_l1) (a, k, 0)).bind fun y_3 =>
  ck (y_3.1.length == a.length) <|
  some (y_3.2, y_3.1)

noncomputable def laws_heldFractionS_l1 (a : List Fraction) : (Int × Int) → Option ((Int × Int) ⊕ (Int ⊕ Int))
  | (k, i) =>
    if (decide (i < (a.length : Int))) then
      ck (ixOk i a.length) <|
      if (!(((a.getD i.toNat default).Num) == k)) then
        some (.inr (.inr (-1)))
      else
        if (!(((a.getD i.toNat default).Den) == (IntKind.i64.wrap (k + 1)))) then
          some (.inr (.inr (-1)))
        else
          some (.inl ((IntKind.i64.wrap ((IntKind.i64.wrap (k + 1)) + 1)), (IntKind.i64.wrap (i + 1))))
    else
      some (.inr (.inl k))

/-- laws.heldFractionS -/
noncomputable def laws_heldFractionS (a : List Fraction) (k : Int) : Option Int :=
  (whileE (laws_heldFractionS_l1 a) (k, 0)).bind fun y_5 =>
  match y_5 with
  | .inl y_5a =>
    some y_5a
  | .inr y_5b =>
    some y_5b

/-- laws.FnExactFaultShares -/
noncomputable def laws_FnExactFaultShares (aList : List Estimate) (aFaults : List Fault) : Option Bool :=
  (laws_szEstimateS aList 1048576).bind fun y_1 =>
  if (decide (y_1 < 0)) then
    some true
  else
    (laws_szFaultS aFaults y_1).bind fun y_3 =>
    if (decide (y_3 < 0)) then
      some true
    else
      (laws_toEstimateS aList).bind fun y_5 =>
      (laws_toFaultS aFaults).bind fun y_6 =>
      (spec_FaultShares y_5 y_6).bind fun y_7 =>
      (impl_FaultShares y_5 y_6).bind fun y_8 =>
      (laws_eqFractionS y_8.1 y_7.1).bind fun y_9 =>
      if ((!y_9) || (!(y_8.2 == y_7.2))) then
        some false
      else
        (laws_eqEstimateS y_5 y_5).bind fun y_11 =>
        if (!y_11) then
          some false
        else
          (laws_eqFaultS y_6 y_6).bind fun y_13 =>
          if (!y_13) then
            some false
          else
            (laws_markEstimateS y_5 1).bind fun y_15 =>
            (laws_markFaultS y_6 y_15.1).bind fun y_16 =>
            if (((decide (y_16.1 < 0)) || (!y_9)) || (!(y_8.2 == y_7.2))) then
              some false
            else
              (laws_markFractionS y_8.1 1).bind fun y_19 =>
              (laws_heldFractionS y_19.2 1).bind fun y_20 =>
              if (decide (y_20 < 0)) then
                some false
              else
                if (!(y_20 == y_19.1)) then
                  some false
                else
                  some true

end Go.Proofs.Ytcfjogkgmkagiab
