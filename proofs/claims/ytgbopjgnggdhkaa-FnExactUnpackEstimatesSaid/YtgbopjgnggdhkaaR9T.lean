/- Typed forms of the functions that R9 reaches. No condition. -/
import Derived.Test.YtgbopjgnggdhkaaEngSH
namespace Go.Proofs.Ytgbopjgnggdhkaa
open Go Go.RowKit
set_option linter.unusedVariables false

structure Estimate where
  Time : Int
  Star : List UInt8
  Observer : List UInt8
  Mag : Int
  Fainter : Bool
  deriving Inhabited, DecidableEq
def Estimate_av (x : Estimate) : AV := .agg ([.int .i64 x.Time, .str x.Star, .str x.Observer, .int .i64 x.Mag, .bool x.Fainter])

structure L25R where
  b_ : List UInt8
  at_ : Int
  ok_ : Bool
  deriving Inhabited, DecidableEq
def L25R_av (x : L25R) : AV := .agg ([.sl 1 (List.map byteAV x.b_), .int .i64 x.at_, .bool x.ok_])

structure Unpacker where
  rest_ : List UInt8
  bad_ : Bool
  deriving Inhabited, DecidableEq
def Unpacker_av (x : Unpacker) : AV := .agg ([.sl 1 (List.map byteAV x.rest_), .bool x.bad_])

attribute [go_sem] Estimate_av L25R_av Unpacker_av

/-- laws.szEstimate -/
noncomputable def laws_szEstimate (a : Estimate) (left_ : Int) : Option Int :=
  if (decide ((IntKind.i64.wrap (left_ - (a.Star.length : Int))) < 0)) then
    some (-1)
  else
    if (decide ((IntKind.i64.wrap ((IntKind.i64.wrap (left_ - (a.Star.length : Int))) - (a.Observer.length : Int))) < 0)) then
      some (-1)
    else
      some (IntKind.i64.wrap ((IntKind.i64.wrap (left_ - (a.Star.length : Int))) - (a.Observer.length : Int)))

noncomputable def laws_szEstimateS_l1 (a : List Estimate) : (Int × Int) → Option ((Int × Int) ⊕ (Int ⊕ Int))
  | (left_, i) =>
    if (decide (i < (a.length : Int))) then
      ck (ixOk i a.length) <|
      (laws_szEstimate (a.getD i.toNat default) left_).bind fun y_4 =>
      if (decide (y_4 < 0)) then
        some (.inr (.inr (-1)))
      else
        some (.inl (y_4, (IntKind.i64.wrap (i + 1))))
    else
      some (.inr (.inl left_))

/-- laws.szEstimateS -/
noncomputable def laws_szEstimateS (a : List Estimate) (left_ : Int) : Option Int :=
  if (decide ((IntKind.i64.wrap (left_ - (a.length : Int))) < 0)) then
    some (-1)
  else
    (whileE (laws_szEstimateS_l1 a) ((IntKind.i64.wrap (left_ - (a.length : Int))), 0)).bind fun y_6 =>
    match y_6 with
    | .inl y_6a =>
      some y_6a
    | .inr y_6b =>
      some y_6b

/-- laws.toEstimate -/
noncomputable def laws_toEstimate (a : Estimate) : Option Estimate :=
  some a

noncomputable def laws_toEstimateS_l1 (a : List Estimate) : ((List Estimate) × Int) → Option (((List Estimate) × Int) ⊕ (List Estimate))
  | (out, i) =>
    if (decide (i < (a.length : Int))) then
      ck (ixOk i a.length) <|
      (laws_toEstimate (a.getD i.toNat default)).bind fun y_4 =>
      ck (ixOk i out.length) <|
      some (.inl ((out.set i.toNat y_4), (IntKind.i64.wrap (i + 1))))
    else
      some (.inr out)

/-- laws.toEstimateS -/
noncomputable def laws_toEstimateS (a : List Estimate) : Option (List Estimate) :=
  ck (mkOk (a.length : Int) 56) <|
  (whileE (laws_toEstimateS_l1 a) ((List.replicate (a.length : Int).toNat (Estimate.mk 0 [] [] 0 false)), 0)).bind fun y_6 =>
  some y_6

/-- spec.l00In -/
noncomputable def spec_l00In (n : Int) (low : Int) (high : Int) : Option Bool :=
  some ((decide (low ≤ n)) && (decide (n ≤ high)))

/-- spec.l06Time -/
noncomputable def spec_l06Time (n : Int) : Option Bool :=
  (spec_l00In n 0 10000000).bind fun y_1 =>
  some y_1

/-- spec.l01Small -/
noncomputable def spec_l01Small (c : UInt8) : Option Bool :=
  some ((decide (97 ≤ (c.toNat : Int))) && (decide ((c.toNat : Int) ≤ 122)))

/-- spec.l01Digit -/
noncomputable def spec_l01Digit (c : UInt8) : Option Bool :=
  some ((decide (48 ≤ (c.toNat : Int))) && (decide ((c.toNat : Int) ≤ 57)))

noncomputable def spec_IsName_l1 (s_ : List UInt8) : Int → Option (Int ⊕ (Unit ⊕ Bool))
  | i =>
    if (decide (i < (s_.length : Int))) then
      ck (ixOk i s_.length) <|
      (spec_l01Small (s_.getD i.toNat 0)).bind fun y_6 =>
      ck (!(!y_6) || (spec_l01Digit (s_.getD i.toNat 0)).isSome) <|
      if (((!y_6) && (!((spec_l01Digit (s_.getD i.toNat 0)).getD default))) && (!(((s_.getD i.toNat 0).toNat : Int) == 45))) then
        some (.inr (.inr false))
      else
        some (.inl (IntKind.i64.wrap (i + 1)))
    else
      some (.inr (.inl ()))

/-- spec.IsName -/
noncomputable def spec_IsName (s_ : List UInt8) : Option Bool :=
  ck (!(!((s_ == ([] : List UInt8)) || (decide (12 < (s_.length : Int))))) || ixOk 0 s_.length) <|
  ck (!(!((s_ == ([] : List UInt8)) || (decide (12 < (s_.length : Int))))) || (spec_l01Small (s_.getD 0 0)).isSome) <|
  if (((s_ == ([] : List UInt8)) || (decide (12 < (s_.length : Int)))) || (!((spec_l01Small (s_.getD 0 0)).getD default))) then
    some false
  else
    (whileE (spec_IsName_l1 s_) 0).bind fun y_9 =>
    match y_9 with
    | .inl y_9a =>
      some true
    | .inr y_9b =>
      some y_9b

/-- spec.l02Mag -/
noncomputable def spec_l02Mag (m : Int) : Option Bool :=
  (spec_l00In m (-2000) 20000).bind fun y_1 =>
  some y_1

/-- spec.l06One -/
noncomputable def spec_l06One (e_ : Estimate) : Option Bool :=
  (spec_l06Time e_.Time).bind fun y_1 =>
  ck (!y_1 || (spec_IsName e_.Star).isSome) <|
  ck (!(y_1 && ((spec_IsName e_.Star).getD default)) || (spec_IsName e_.Observer).isSome) <|
  ck (!((y_1 && ((spec_IsName e_.Star).getD default)) && ((spec_IsName e_.Observer).getD default)) || (spec_l02Mag e_.Mag).isSome) <|
  some (((y_1 && ((spec_IsName e_.Star).getD default)) && ((spec_IsName e_.Observer).getD default)) && ((spec_l02Mag e_.Mag).getD default))

/-- spec.l06Before -/
noncomputable def spec_l06Before (a : Estimate) (b : Estimate) : Option Bool :=
  if (!(a.Time == b.Time)) then
    some (decide (a.Time < b.Time))
  else
    if (!(a.Star == b.Star)) then
      some (Op.bytesLess a.Star b.Star)
    else
      some (Op.bytesLess a.Observer b.Observer)

noncomputable def spec_l06Ok_l1 (list : List Estimate) : Int → Option (Int ⊕ (Unit ⊕ Bool))
  | i =>
    if (decide (i < (list.length : Int))) then
      ck (ixOk i list.length) <|
      (spec_l06One (list.getD i.toNat default)).bind fun y_3 =>
      ck (!((!(!y_3)) && (decide (0 < i))) || ixOk (IntKind.i64.wrap (i - 1)) list.length) <|
      ck (!((!(!y_3)) && (decide (0 < i))) || (spec_l06Before (list.getD (IntKind.i64.wrap (i - 1)).toNat default) (list.getD i.toNat default)).isSome) <|
      if ((!y_3) || ((decide (0 < i)) && (!((spec_l06Before (list.getD (IntKind.i64.wrap (i - 1)).toNat default) (list.getD i.toNat default)).getD default)))) then
        some (.inr (.inr false))
      else
        some (.inl (IntKind.i64.wrap (i + 1)))
    else
      some (.inr (.inl ()))

/-- spec.l06Ok -/
noncomputable def spec_l06Ok (list : List Estimate) : Option Bool :=
  (whileE (spec_l06Ok_l1 list) 0).bind fun y_7 =>
  match y_7 with
  | .inl y_7a =>
    some (decide ((list.length : Int) ≤ 100))
  | .inr y_7b =>
    some y_7b

noncomputable def spec_l06PutName_l1 (list : List (List UInt8)) (name : List UInt8) : Int → Option (Int ⊕ Int)
  | k =>
    ck (!(decide (0 < k)) || ixOk (IntKind.i64.wrap (k - 1)) list.length) <|
    if ((decide (0 < k)) && (!(Op.bytesLess (list.getD (IntKind.i64.wrap (k - 1)).toNat default) name || (list.getD (IntKind.i64.wrap (k - 1)).toNat default) == name))) then
      some (.inl (IntKind.i64.wrap (k - 1)))
    else
      some (.inr k)

/-- spec.l06PutName -/
noncomputable def spec_l06PutName (list : List (List UInt8)) (name : List UInt8) : Option (List (List UInt8)) :=
  (whileE (spec_l06PutName_l1 list name) (list.length : Int)).bind fun y_3 =>
  ck (!(decide (0 < y_3)) || ixOk (IntKind.i64.wrap (y_3 - 1)) list.length) <|
  if ((decide (0 < y_3)) && ((list.getD (IntKind.i64.wrap (y_3 - 1)).toNat default) == name)) then
    some list
  else
    ck (cutOk 0 y_3 list.length) <|
    ck (appOk (([] : List (List UInt8)).length + (cut list 0 y_3).length) 16) <|
    ck (appOk ((([] : List (List UInt8)) ++ (cut list 0 y_3)).length + ([name] : List (List UInt8)).length) 16) <|
    ck (cutOk y_3 (list.length : Int) list.length) <|
    ck (appOk (((([] : List (List UInt8)) ++ (cut list 0 y_3)) ++ ([name] : List (List UInt8))).length + (cut list y_3 (list.length : Int)).length) 16) <|
    some (((([] : List (List UInt8)) ++ (cut list 0 y_3)) ++ ([name] : List (List UInt8))) ++ (cut list y_3 (list.length : Int)))

noncomputable def spec_l25Names_l1 (list : List Estimate) (star : Bool) : ((List (List UInt8)) × Int) → Option (((List (List UInt8)) × Int) ⊕ (List (List UInt8)))
  | (out, i) =>
    if (decide (i < (list.length : Int))) then
      if star then
        ck (ixOk i list.length) <|
        (spec_l06PutName out ((list.getD i.toNat default).Star)).bind fun y_4 =>
        some (.inl (y_4, (IntKind.i64.wrap (i + 1))))
      else
        ck (ixOk i list.length) <|
        (spec_l06PutName out ((list.getD i.toNat default).Observer)).bind fun y_6 =>
        some (.inl (y_6, (IntKind.i64.wrap (i + 1))))
    else
      some (.inr out)

/-- spec.l25Names -/
noncomputable def spec_l25Names (list : List Estimate) (star : Bool) : Option (List (List UInt8)) :=
  (whileE (spec_l25Names_l1 list star) (([] : List (List UInt8)), 0)).bind fun y_7 =>
  some y_7

noncomputable def spec_l25Number_l1  : (Int × (List UInt8)) → Option ((Int × (List UInt8)) ⊕ (Int × (List UInt8)))
  | (n, out) =>
    if (decide (128 ≤ n)) then
      ck (nz 128) <|
      ck (appOk (out.length + ([(toU8 (IntKind.u8.wrap (IntKind.i64.wrap ((n.tmod 128) + 128))))] : List UInt8).length) 1) <|
      some (.inl ((IntKind.i64.wrap (n.tdiv 128)), (out ++ ([(toU8 (IntKind.u8.wrap (IntKind.i64.wrap ((n.tmod 128) + 128))))] : List UInt8))))
    else
      some (.inr (n, out))

/-- spec.l25Number -/
noncomputable def spec_l25Number (n : Int) : Option (List UInt8) :=
  (whileE (spec_l25Number_l1) (n, ([] : List UInt8))).bind fun y_4 =>
  ck (appOk (y_4.2.length + ([(toU8 (IntKind.u8.wrap y_4.1))] : List UInt8).length) 1) <|
  some (y_4.2 ++ ([(toU8 (IntKind.u8.wrap y_4.1))] : List UInt8))

noncomputable def spec_l25PutNames_l1 (names : List (List UInt8)) : ((List UInt8) × Int) → Option (((List UInt8) × Int) ⊕ (List UInt8))
  | (out, i) =>
    if (decide (i < (names.length : Int))) then
      ck (ixOk i names.length) <|
      (spec_l25Number ((names.getD i.toNat default).length : Int)).bind fun y_5 =>
      ck (appOk (out.length + y_5.length) 1) <|
      ck (appOk ((out ++ y_5).length + (names.getD i.toNat default).length) 1) <|
      some (.inl (((out ++ y_5) ++ (names.getD i.toNat default)), (IntKind.i64.wrap (i + 1))))
    else
      some (.inr out)

/-- spec.l25PutNames -/
noncomputable def spec_l25PutNames (out : List UInt8) (names : List (List UInt8)) : Option (List UInt8) :=
  (spec_l25Number (names.length : Int)).bind fun y_1 =>
  ck (appOk (out.length + y_1.length) 1) <|
  (whileE (spec_l25PutNames_l1 names) ((out ++ y_1), 0)).bind fun y_8 =>
  some y_8

noncomputable def spec_l25Find_l1 (list : List (List UInt8)) (name : List UInt8) : Int → Option (Int ⊕ (Unit ⊕ Int))
  | i =>
    if (decide (i < (list.length : Int))) then
      ck (ixOk i list.length) <|
      if ((list.getD i.toNat default) == name) then
        some (.inr (.inr i))
      else
        some (.inl (IntKind.i64.wrap (i + 1)))
    else
      some (.inr (.inl ()))

/-- spec.l25Find -/
noncomputable def spec_l25Find (list : List (List UInt8)) (name : List UInt8) : Option Int :=
  (whileE (spec_l25Find_l1 list name) 0).bind fun y_4 =>
  match y_4 with
  | .inl y_4a =>
    some (-1)
  | .inr y_4b =>
    some y_4b

/-- spec.l25Fold -/
noncomputable def spec_l25Fold (n : Int) : Option Int :=
  if (decide (n < 0)) then
    some (IntKind.i64.wrap ((IntKind.i64.wrap ((-2) * n)) - 1))
  else
    some (IntKind.i64.wrap (2 * n))

noncomputable def spec_l25Sum_l1 (b : List UInt8) : (Int × Int × Int) → Option ((Int × Int × Int) ⊕ (Int × Int))
  | (sum, all, i) =>
    if (decide (i < (b.length : Int))) then
      ck (ixOk i b.length) <|
      ck (nz 251) <|
      some (.inl (((IntKind.i64.wrap (sum + ((b.getD i.toNat default).toNat : Int))).tmod 251), ((IntKind.i64.wrap (all + ((IntKind.i64.wrap (sum + ((b.getD i.toNat default).toNat : Int))).tmod 251))).tmod 251), (IntKind.i64.wrap (i + 1))))
    else
      some (.inr (sum, all))

/-- spec.l25Sum -/
noncomputable def spec_l25Sum (b : List UInt8) : Option Int :=
  (whileE (spec_l25Sum_l1 b) (1, 0, 0)).bind fun y_4 =>
  some (IntKind.i64.wrap ((IntKind.i64.wrap (251 * y_4.2)) + y_4.1))

/-- spec.l25Close -/
noncomputable def spec_l25Close (out : List UInt8) : Option (List UInt8) :=
  (spec_l25Sum out).bind fun y_1 =>
  ck (nz 256) <|
  ck (appOk (out.length + ([(toU8 (IntKind.u8.wrap (IntKind.i64.wrap (y_1.tdiv 256))))] : List UInt8).length) 1) <|
  ck (appOk ((out ++ ([(toU8 (IntKind.u8.wrap (IntKind.i64.wrap (y_1.tdiv 256))))] : List UInt8)).length + ([(toU8 (IntKind.u8.wrap (y_1.tmod 256)))] : List UInt8).length) 1) <|
  some ((out ++ ([(toU8 (IntKind.u8.wrap (IntKind.i64.wrap (y_1.tdiv 256))))] : List UInt8)) ++ ([(toU8 (IntKind.u8.wrap (y_1.tmod 256)))] : List UInt8))

noncomputable def spec_l25Estimates_l1 (list : List Estimate) (stars : List (List UInt8)) (people : List (List UInt8)) : ((List UInt8) × Int × Int × Int) → Option (((List UInt8) × Int × Int × Int) ⊕ (List UInt8))
  | (out, time, mag, i) =>
    if (decide (i < (list.length : Int))) then
      ck (ixOk i list.length) <|
      (spec_l25Number (IntKind.i64.wrap (((list.getD i.toNat default).Time) - time))).bind fun y_9 =>
      ck (appOk (out.length + y_9.length) 1) <|
      (spec_l25Find stars ((list.getD i.toNat default).Star)).bind fun y_11 =>
      (spec_l25Number y_11).bind fun y_12 =>
      ck (appOk ((out ++ y_9).length + y_12.length) 1) <|
      (spec_l25Find people ((list.getD i.toNat default).Observer)).bind fun y_14 =>
      if (list.getD i.toNat default).Fainter then
        (spec_l25Number (IntKind.i64.wrap ((IntKind.i64.wrap (2 * y_14)) + 1))).bind fun y_16 =>
        ck (appOk (((out ++ y_9) ++ y_12).length + y_16.length) 1) <|
        (spec_l25Fold (IntKind.i64.wrap (((list.getD i.toNat default).Mag) - mag))).bind fun y_18 =>
        (spec_l25Number y_18).bind fun y_19 =>
        ck (appOk ((((out ++ y_9) ++ y_12) ++ y_16).length + y_19.length) 1) <|
        some (.inl (((((out ++ y_9) ++ y_12) ++ y_16) ++ y_19), (list.getD i.toNat default).Time, (list.getD i.toNat default).Mag, (IntKind.i64.wrap (i + 1))))
      else
        (spec_l25Number (IntKind.i64.wrap (2 * y_14))).bind fun y_21 =>
        ck (appOk (((out ++ y_9) ++ y_12).length + y_21.length) 1) <|
        (spec_l25Fold (IntKind.i64.wrap (((list.getD i.toNat default).Mag) - mag))).bind fun y_23 =>
        (spec_l25Number y_23).bind fun y_24 =>
        ck (appOk ((((out ++ y_9) ++ y_12) ++ y_21).length + y_24.length) 1) <|
        some (.inl (((((out ++ y_9) ++ y_12) ++ y_21) ++ y_24), (list.getD i.toNat default).Time, (list.getD i.toNat default).Mag, (IntKind.i64.wrap (i + 1))))
    else
      some (.inr out)

/-- spec.l25Estimates -/
noncomputable def spec_l25Estimates (list : List Estimate) : Option (List UInt8) :=
  (spec_l25Names list true).bind fun y_1 =>
  (spec_l25Names list false).bind fun y_2 =>
  (spec_l25PutNames ([(69 : UInt8)] : List UInt8) y_1).bind fun y_3 =>
  (spec_l25PutNames y_3 y_2).bind fun y_4 =>
  (spec_l25Number (list.length : Int)).bind fun y_5 =>
  ck (appOk (y_4.length + y_5.length) 1) <|
  (whileE (spec_l25Estimates_l1 list y_1 y_2) ((y_4 ++ y_5), 0, 0, 0)).bind fun y_26 =>
  (spec_l25Close y_26).bind fun y_27 =>
  some y_27

/-- spec.PackEstimates -/
noncomputable def spec_PackEstimates (list : List Estimate) : Option ((List UInt8) × Int) :=
  (spec_l06Ok list).bind fun y_1 =>
  if (!y_1) then
    some (([] : List UInt8), 1)
  else
    (spec_l25Estimates list).bind fun y_3 =>
    some (y_3, 0)

/-- impl.placeOf$1 -/
noncomputable def impl_placeOf_c1 (s_ : List UInt8) (t1 : List UInt8) : Option Bool :=
  some (s_ == t1)

noncomputable def slices_IndexFunc_string_string__impl_placeOf_c1_l1 (s_ : List (List UInt8)) (c : List UInt8) (t7 : Int) : Int → Option (Int ⊕ (Unit ⊕ Int))
  | t8 =>
    if (decide (t8 < t7)) then
      ck (ixOk t8 s_.length) <|
      (impl_placeOf_c1 (s_.getD t8.toNat default) c).bind fun y_3 =>
      if y_3 then
        some (.inr (.inr t8))
      else
        some (.inl (IntKind.i64.wrap (t8 + 1)))
    else
      some (.inr (.inl ()))

/-- slices.IndexFunc[[]string,string] -/
noncomputable def slices_IndexFunc_string_string__impl_placeOf_c1 (s_ : List (List UInt8)) (f_c0 : List UInt8) : Option Int :=
  (whileE (slices_IndexFunc_string_string__impl_placeOf_c1_l1 s_ f_c0 (s_.length : Int)) 0).bind fun y_5 =>
  match y_5 with
  | .inl y_5a =>
    some (-1)
  | .inr y_5b =>
    some y_5b

/-- impl.indexOf[string] -/
noncomputable def impl_indexOf_string__impl_placeOf_c1 (list : List (List UInt8)) (wanted_c0 : List UInt8) : Option (Int × Int) :=
  (slices_IndexFunc_string_string__impl_placeOf_c1 list wanted_c0).bind fun y_1 =>
  if (decide (0 ≤ y_1)) then
    some (y_1, 0)
  else
    some (0, 3)

/-- impl.placeOf -/
noncomputable def impl_placeOf (names : List (List UInt8)) (name : List UInt8) : Option Int :=
  (impl_indexOf_string__impl_placeOf_c1 names name).bind fun y_1 =>
  some y_1.1

/-- impl.fold -/
noncomputable def impl_fold (n : Int) : Option Int :=
  if (decide (n < 0)) then
    some (IntKind.i64.wrap ((IntKind.i64.wrap ((-2) * n)) - 1))
  else
    some (IntKind.i64.wrap (2 * n))

/-- impl.in -/
noncomputable def impl_in (n : Int) (low : Int) (high : Int) : Option Bool :=
  some ((decide (low ≤ n)) && (decide (n ≤ high)))

/-- impl.ValidTime -/
noncomputable def impl_ValidTime (t : Int) : Option Bool :=
  (impl_in t 0 10000000).bind fun y_1 =>
  some y_1

noncomputable def impl_IsName_l1 (s_ : List UInt8) (t15 : Int) : Int → Option (Int ⊕ (Unit ⊕ Bool))
  | t16 =>
    if (decide (t16 < t15)) then
      ck (ixOk t16 s_.length) <|
      if ((!((decide (97 ≤ ((s_.getD t16.toNat 0).toNat : Int))) && (decide (((s_.getD t16.toNat 0).toNat : Int) ≤ 122)))) && ((t16 == 0) || (!(((decide (48 ≤ ((s_.getD t16.toNat 0).toNat : Int))) && (decide (((s_.getD t16.toNat 0).toNat : Int) ≤ 57))) || (((s_.getD t16.toNat 0).toNat : Int) == 45))))) then
        some (.inr (.inr false))
      else
        some (.inl (IntKind.i64.wrap (t16 + 1)))
    else
      some (.inr (.inl ()))

/-- impl.IsName -/
noncomputable def impl_IsName (s_ : List UInt8) : Option Bool :=
  if ((decide ((s_.length : Int) < 1)) || (decide (12 < (s_.length : Int)))) then
    some false
  else
    (whileE (impl_IsName_l1 s_ (s_.length : Int)) 0).bind fun y_5 =>
    match y_5 with
    | .inl y_5a =>
      some true
    | .inr y_5b =>
      some y_5b

/-- impl.ValidMag -/
noncomputable def impl_ValidMag (m : Int) : Option Bool :=
  (impl_in m (-2000) 20000).bind fun y_1 =>
  some y_1

/-- impl.isEstimate -/
noncomputable def impl_isEstimate (e_ : Estimate) : Option Bool :=
  (impl_ValidTime e_.Time).bind fun y_1 =>
  ck (!y_1 || (impl_IsName e_.Star).isSome) <|
  ck (!(y_1 && ((impl_IsName e_.Star).getD default)) || (impl_IsName e_.Observer).isSome) <|
  ck (!((y_1 && ((impl_IsName e_.Star).getD default)) && ((impl_IsName e_.Observer).getD default)) || (impl_ValidMag e_.Mag).isSome) <|
  some (((y_1 && ((impl_IsName e_.Star).getD default)) && ((impl_IsName e_.Observer).getD default)) && ((impl_ValidMag e_.Mag).getD default))

/-- cmp.isNaN[int64] -/
noncomputable def cmp_isNaN_int64 (x : Int) : Option Bool :=
  some (!(x == x))

/-- cmp.Compare[int64] -/
noncomputable def cmp_Compare_int64 (x : Int) (y : Int) : Option Int :=
  (cmp_isNaN_int64 x).bind fun y_1 =>
  (cmp_isNaN_int64 y).bind fun y_2 =>
  if y_1 then
    if y_2 then
      some 0
    else
      some (-1)
  else
    if y_2 then
      some 1
    else
      if (decide (x < y)) then
        some (-1)
      else
        if (decide (y < x)) then
          some 1
        else
          some 0


/-- internal/bytealg.CompareString -/
noncomputable def internal_bytealg_CompareString (a : List UInt8) (b : List UInt8) : Option Int :=
  (hCmp a b).bind fun y_1 =>
  some y_1

/-- strings.Compare -/
noncomputable def strings_Compare (a : List UInt8) (b : List UInt8) : Option Int :=
  (internal_bytealg_CompareString a b).bind fun y_1 =>
  some y_1

noncomputable def cmp_Or_int_l1 (zero : Int) (t6 : List Int) (t7 : Int) : Int → Option (Int ⊕ (Unit ⊕ Int))
  | t8 =>
    if (decide (t8 < t7)) then
      ck (ixOk t8 t6.length) <|
      if (!((t6.getD t8.toNat default) == zero)) then
        some (.inr (.inr (t6.getD t8.toNat default)))
      else
        some (.inl (IntKind.i64.wrap (t8 + 1)))
    else
      some (.inr (.inl ()))

/-- cmp.Or[int] -/
noncomputable def cmp_Or_int (vals : List Int) : Option Int :=
  (whileE (cmp_Or_int_l1 0 vals (vals.length : Int)) 0).bind fun y_4 =>
  match y_4 with
  | .inl y_4a =>
    some 0
  | .inr y_4b =>
    some y_4b

/-- impl.compareEstimates -/
noncomputable def impl_compareEstimates (a : Estimate) (b : Estimate) : Option Int :=
  (cmp_Compare_int64 a.Time b.Time).bind fun y_1 =>
  (strings_Compare a.Star b.Star).bind fun y_2 =>
  (strings_Compare a.Observer b.Observer).bind fun y_3 =>
  (cmp_Or_int ([y_1, y_2, y_3] : List Int)).bind fun y_4 =>
  some y_4

noncomputable def impl_ValidEstimates_l1 (list : List Estimate) (t8 : List Estimate) (t9 : Int) : Int → Option (Int ⊕ (Unit ⊕ Bool))
  | t10 =>
    if (decide (t10 < t9)) then
      ck (ixOk t10 t8.length) <|
      (impl_isEstimate (t8.getD t10.toNat default)).bind fun y_4 =>
      ck (!((!(!y_4)) && (decide (0 < t10))) || ixOk (IntKind.i64.wrap (t10 - 1)) list.length) <|
      ck (!((!(!y_4)) && (decide (0 < t10))) || (impl_compareEstimates (list.getD (IntKind.i64.wrap (t10 - 1)).toNat default) (t8.getD t10.toNat default)).isSome) <|
      if ((!y_4) || ((decide (0 < t10)) && (decide (0 ≤ ((impl_compareEstimates (list.getD (IntKind.i64.wrap (t10 - 1)).toNat default) (t8.getD t10.toNat default)).getD default))))) then
        some (.inr (.inr false))
      else
        some (.inl (IntKind.i64.wrap (t10 + 1)))
    else
      some (.inr (.inl ()))

/-- impl.ValidEstimates -/
noncomputable def impl_ValidEstimates (list : List Estimate) : Option Bool :=
  if (decide (100 < (list.length : Int))) then
    some false
  else
    (whileE (impl_ValidEstimates_l1 list list (list.length : Int)) 0).bind fun y_8 =>
    match y_8 with
    | .inl y_8a =>
      some true
    | .inr y_8b =>
      some y_8b

/-- impl.starOf -/
noncomputable def impl_starOf (e_ : Estimate) : Option (List UInt8) :=
  some e_.Star



noncomputable def impl_namesOf__impl_starOf_l1 (t9 : List Estimate) (t10 : Int) : ((List (List UInt8)) × Int) → Option (((List (List UInt8)) × Int) ⊕ (List (List UInt8)))
  | (out, t11) =>
    if (decide (t11 < t10)) then
      ck (ixOk t11 t9.length) <|
      (impl_starOf (t9.getD t11.toNat default)).bind fun y_3 =>
      ck (appOk (out.length + ([y_3] : List (List UInt8)).length) 16) <|
      some (.inl ((out ++ ([y_3] : List (List UInt8))), (IntKind.i64.wrap (t11 + 1))))
    else
      some (.inr out)

/-- impl.namesOf -/
noncomputable def impl_namesOf__impl_starOf (list : List Estimate) : Option (List (List UInt8)) :=
  (whileE (impl_namesOf__impl_starOf_l1 list (list.length : Int)) (([] : List (List UInt8)), 0)).bind fun y_5 =>
  (hSort y_5).bind fun y_6 =>
  (hCompact y_6).bind fun y_7 =>
  some y_7

/-- impl.observerOf -/
noncomputable def impl_observerOf (e_ : Estimate) : Option (List UInt8) :=
  some e_.Observer

noncomputable def impl_namesOf__impl_observerOf_l1 (t9 : List Estimate) (t10 : Int) : ((List (List UInt8)) × Int) → Option (((List (List UInt8)) × Int) ⊕ (List (List UInt8)))
  | (out, t11) =>
    if (decide (t11 < t10)) then
      ck (ixOk t11 t9.length) <|
      (impl_observerOf (t9.getD t11.toNat default)).bind fun y_3 =>
      ck (appOk (out.length + ([y_3] : List (List UInt8)).length) 16) <|
      some (.inl ((out ++ ([y_3] : List (List UInt8))), (IntKind.i64.wrap (t11 + 1))))
    else
      some (.inr out)

/-- impl.namesOf -/
noncomputable def impl_namesOf__impl_observerOf (list : List Estimate) : Option (List (List UInt8)) :=
  (whileE (impl_namesOf__impl_observerOf_l1 list (list.length : Int)) (([] : List (List UInt8)), 0)).bind fun y_5 =>
  (hSort y_5).bind fun y_6 =>
  (hCompact y_6).bind fun y_7 =>
  some y_7

/-- impl.count[string] -/
noncomputable def impl_count_string (list : List (List UInt8)) : Option Int :=
  some (list.length : Int)

noncomputable def impl_appendNumber_l1  : ((List UInt8) × Int) → Option (((List UInt8) × Int) ⊕ ((List UInt8) × Int))
  | (b, n) =>
    if (decide (128 ≤ n)) then
      ck (nz 128) <|
      ck (appOk (b.length + ([(toU8 (IntKind.u8.wrap (IntKind.i64.wrap ((n.tmod 128) + 128))))] : List UInt8).length) 1) <|
      some (.inl ((b ++ ([(toU8 (IntKind.u8.wrap (IntKind.i64.wrap ((n.tmod 128) + 128))))] : List UInt8)), (IntKind.i64.wrap (n.tdiv 128))))
    else
      some (.inr (b, n))

/-- impl.appendNumber -/
noncomputable def impl_appendNumber (b : List UInt8) (n : Int) : Option (List UInt8) :=
  (whileE (impl_appendNumber_l1) (b, n)).bind fun y_4 =>
  ck (appOk (y_4.1.length + ([(toU8 (IntKind.u8.wrap y_4.2))] : List UInt8).length) 1) <|
  some (y_4.1 ++ ([(toU8 (IntKind.u8.wrap y_4.2))] : List UInt8))

noncomputable def impl_appendNames_l1 (t11 : List (List UInt8)) (t12 : Int) : ((List UInt8) × Int) → Option (((List UInt8) × Int) ⊕ (List UInt8))
  | (b, t13) =>
    if (decide (t13 < t12)) then
      ck (ixOk t13 t11.length) <|
      (impl_appendNumber b ((t11.getD t13.toNat default).length : Int)).bind fun y_5 =>
      ck (appOk (y_5.length + (t11.getD t13.toNat default).length) 1) <|
      some (.inl ((y_5 ++ (t11.getD t13.toNat default)), (IntKind.i64.wrap (t13 + 1))))
    else
      some (.inr b)

/-- impl.appendNames -/
noncomputable def impl_appendNames (b : List UInt8) (names : List (List UInt8)) : Option (List UInt8) :=
  (impl_count_string names).bind fun y_1 =>
  (impl_appendNumber b y_1).bind fun y_2 =>
  (whileE (impl_appendNames_l1 names (names.length : Int)) (y_2, 0)).bind fun y_7 =>
  some y_7

/-- impl.count[impl.Estimate] -/
noncomputable def impl_count_impl_Estimate (list : List Estimate) : Option Int :=
  some (list.length : Int)

noncomputable def impl_SumOfBytes_l1 (t7 : List UInt8) (t8 : Int) : (Int × Int × Int) → Option ((Int × Int × Int) ⊕ (Int × Int))
  | (s_, t, t9) =>
    if (decide (t9 < t8)) then
      ck (ixOk t9 t7.length) <|
      ck (nz 251) <|
      some (.inl (((IntKind.i64.wrap (s_ + ((t7.getD t9.toNat default).toNat : Int))).tmod 251), ((IntKind.i64.wrap (t + ((IntKind.i64.wrap (s_ + ((t7.getD t9.toNat default).toNat : Int))).tmod 251))).tmod 251), (IntKind.i64.wrap (t9 + 1))))
    else
      some (.inr (s_, t))

/-- impl.SumOfBytes -/
noncomputable def impl_SumOfBytes (b : List UInt8) : Option Int :=
  (whileE (impl_SumOfBytes_l1 b (b.length : Int)) (1, 0, 0)).bind fun y_4 =>
  some (IntKind.i64.wrap ((IntKind.i64.wrap (251 * y_4.2)) + y_4.1))

/-- impl.sealed -/
noncomputable def impl_sealed (b : List UInt8) : Option (List UInt8) :=
  (impl_SumOfBytes b).bind fun y_1 =>
  ck (nz 256) <|
  ck (appOk (b.length + ([(toU8 (IntKind.u8.wrap (IntKind.i64.wrap (y_1.tdiv 256)))), (toU8 (IntKind.u8.wrap (y_1.tmod 256)))] : List UInt8).length) 1) <|
  some (b ++ ([(toU8 (IntKind.u8.wrap (IntKind.i64.wrap (y_1.tdiv 256)))), (toU8 (IntKind.u8.wrap (y_1.tmod 256)))] : List UInt8))

noncomputable def impl_PackEstimates_l2 (stars : List (List UInt8)) (observers : List (List UInt8)) (e_ : Estimate) (t30 : List Estimate) (t31 : Int) (t32 : Int) (t59 : List Int) (t60 : Int) : ((List UInt8) × Int) → Option (((List UInt8) × Int) ⊕ (List UInt8))
  | (b, t61) =>
    if (decide (t61 < t60)) then
      ck (ixOk t61 t59.length) <|
      (impl_appendNumber b (t59.getD t61.toNat default)).bind fun y_17 =>
      some (.inl (y_17, (IntKind.i64.wrap (t61 + 1))))
    else
      some (.inr b)

noncomputable def impl_PackEstimates_l3 (stars : List (List UInt8)) (observers : List (List UInt8)) (e_ : Estimate) (t30 : List Estimate) (t31 : Int) (t32 : Int) (t59 : List Int) (t60 : Int) : ((List UInt8) × Int) → Option (((List UInt8) × Int) ⊕ (List UInt8))
  | (b, t61) =>
    if (decide (t61 < t60)) then
      ck (ixOk t61 t59.length) <|
      (impl_appendNumber b (t59.getD t61.toNat default)).bind fun y_23 =>
      some (.inl (y_23, (IntKind.i64.wrap (t61 + 1))))
    else
      some (.inr b)

noncomputable def impl_PackEstimates_l1 (stars : List (List UInt8)) (observers : List (List UInt8)) (t30 : List Estimate) (t31 : Int) : ((List UInt8) × Int × Int × Int) → Option (((List UInt8) × Int × Int × Int) ⊕ (List UInt8))
  | (b, time, mag, t32) =>
    if (decide (t32 < t31)) then
      ck (ixOk t32 t30.length) <|
      (impl_placeOf observers ((t30.getD t32.toNat default).Observer)).bind fun y_11 =>
      if (t30.getD t32.toNat default).Fainter then
        (impl_placeOf stars ((t30.getD t32.toNat default).Star)).bind fun y_13 =>
        (impl_fold (IntKind.i64.wrap (((t30.getD t32.toNat default).Mag) - mag))).bind fun y_14 =>
        (whileE (impl_PackEstimates_l2 stars observers (t30.getD t32.toNat default) t30 t31 t32 ([(IntKind.i64.wrap (((t30.getD t32.toNat default).Time) - time)), y_13, (IntKind.i64.wrap ((IntKind.i64.wrap (2 * y_11)) + 1)), y_14] : List Int) (([(IntKind.i64.wrap (((t30.getD t32.toNat default).Time) - time)), y_13, (IntKind.i64.wrap ((IntKind.i64.wrap (2 * y_11)) + 1)), y_14] : List Int).length : Int)) (b, 0)).bind fun y_18 =>
        some (.inl (y_18, (t30.getD t32.toNat default).Time, (t30.getD t32.toNat default).Mag, (IntKind.i64.wrap (t32 + 1))))
      else
        (impl_placeOf stars ((t30.getD t32.toNat default).Star)).bind fun y_19 =>
        (impl_fold (IntKind.i64.wrap (((t30.getD t32.toNat default).Mag) - mag))).bind fun y_20 =>
        (whileE (impl_PackEstimates_l3 stars observers (t30.getD t32.toNat default) t30 t31 t32 ([(IntKind.i64.wrap (((t30.getD t32.toNat default).Time) - time)), y_19, (IntKind.i64.wrap (2 * y_11)), y_20] : List Int) (([(IntKind.i64.wrap (((t30.getD t32.toNat default).Time) - time)), y_19, (IntKind.i64.wrap (2 * y_11)), y_20] : List Int).length : Int)) (b, 0)).bind fun y_24 =>
        some (.inl (y_24, (t30.getD t32.toNat default).Time, (t30.getD t32.toNat default).Mag, (IntKind.i64.wrap (t32 + 1))))
    else
      some (.inr b)

/-- impl.PackEstimates -/
noncomputable def impl_PackEstimates (list : List Estimate) : Option ((List UInt8) × Int) :=
  (impl_ValidEstimates list).bind fun y_1 =>
  if (!y_1) then
    some (([] : List UInt8), 1)
  else
    (impl_namesOf__impl_starOf list).bind fun y_3 =>
    (impl_namesOf__impl_observerOf list).bind fun y_4 =>
    (impl_appendNames ([(69 : UInt8)] : List UInt8) y_3).bind fun y_5 =>
    (impl_appendNames y_5 y_4).bind fun y_6 =>
    (impl_count_impl_Estimate list).bind fun y_7 =>
    (impl_appendNumber y_6 y_7).bind fun y_8 =>
    (whileE (impl_PackEstimates_l1 y_3 y_4 list (list.length : Int)) (y_8, 0, 0, 0)).bind fun y_25 =>
    (impl_sealed y_25).bind fun y_26 =>
    some (y_26, 0)

noncomputable def laws_eqByteS_l1 (a : List UInt8) (b : List UInt8) : Int → Option (Int ⊕ (Unit ⊕ Bool))
  | i =>
    if (decide (i < (a.length : Int))) then
      ck (ixOk i a.length) <|
      ck (ixOk i b.length) <|
      if (!(((a.getD i.toNat default).toNat : Int) == ((b.getD i.toNat default).toNat : Int))) then
        some (.inr (.inr false))
      else
        some (.inl (IntKind.i64.wrap (i + 1)))
    else
      some (.inr (.inl ()))

/-- laws.eqByteS -/
noncomputable def laws_eqByteS (a : List UInt8) (b : List UInt8) : Option Bool :=
  if (!((a.length : Int) == (b.length : Int))) then
    some false
  else
    (whileE (laws_eqByteS_l1 a b) 0).bind fun y_6 =>
    match y_6 with
    | .inl y_6a =>
      some true
    | .inr y_6b =>
      some y_6b

/-- laws.eqEstimate -/
noncomputable def laws_eqEstimate (a : Estimate) (b : Estimate) : Option Bool :=
  if (!(a.Time == b.Time)) then
    some false
  else
    if (!(a.Star == b.Star)) then
      some false
    else
      if (!(a.Observer == b.Observer)) then
        some false
      else
        if (!(a.Mag == b.Mag)) then
          some false
        else
          if (!(a.Fainter == b.Fainter)) then
            some false
          else
            some true

noncomputable def laws_eqEstimateS_l1 (a : List Estimate) (b : List Estimate) : Int → Option (Int ⊕ (Unit ⊕ Bool))
  | i =>
    if (decide (i < (a.length : Int))) then
      ck (ixOk i a.length) <|
      ck (ixOk i b.length) <|
      (laws_eqEstimate (a.getD i.toNat default) (b.getD i.toNat default)).bind fun y_5 =>
      if (!y_5) then
        some (.inr (.inr false))
      else
        some (.inl (IntKind.i64.wrap (i + 1)))
    else
      some (.inr (.inl ()))

/-- laws.eqEstimateS -/
noncomputable def laws_eqEstimateS (a : List Estimate) (b : List Estimate) : Option Bool :=
  if (!((a.length : Int) == (b.length : Int))) then
    some false
  else
    (whileE (laws_eqEstimateS_l1 a b) 0).bind fun y_7 =>
    match y_7 with
    | .inl y_7a =>
      some true
    | .inr y_7b =>
      some y_7b

noncomputable def laws_markText_l1  : (Int × (List UInt8)) → Option ((Int × (List UInt8)) ⊕ (List UInt8))
  | (k, out) =>
    if (decide (0 < k)) then
      ck (nz 10) <|
      ck (catOk ([(toU8 (IntKind.u8.wrap (IntKind.i64.wrap (48 + (k.tmod 10)))))] : List UInt8).length out.length) <|
      some (.inl ((IntKind.i64.wrap (k.tdiv 10)), (([(toU8 (IntKind.u8.wrap (IntKind.i64.wrap (48 + (k.tmod 10)))))] : List UInt8) ++ out)))
    else
      some (.inr out)

/-- laws.markText -/
noncomputable def laws_markText (k : Int) : Option (List UInt8) :=
  if (decide (k ≤ 0)) then
    some ([109, 48] : List UInt8)
  else
    (whileE (laws_markText_l1) (k, ([] : List UInt8))).bind fun y_5 =>
    ck (catOk ([109] : List UInt8).length y_5.length) <|
    some (([109] : List UInt8) ++ y_5)

noncomputable def laws_markEstimateS_l1  : ((List Estimate) × Int × Int) → Option (((List Estimate) × Int × Int) ⊕ ((List Estimate) × Int))
  | (a, k, i) =>
    if (decide (i < (a.length : Int))) then
      ck (ixOk i a.length) <|
      (laws_markText (IntKind.i64.wrap (k + 1))).bind fun y_3 =>
      (laws_markText (IntKind.i64.wrap ((IntKind.i64.wrap (k + 1)) + 1))).bind fun y_4 =>
      ck (nz 3) <|
      some (.inl ((a.set i.toNat (Estimate.mk k y_3 y_4 (IntKind.i64.wrap ((IntKind.i64.wrap ((IntKind.i64.wrap (k + 1)) + 1)) + 1)) (((IntKind.i64.wrap ((IntKind.i64.wrap ((IntKind.i64.wrap ((IntKind.i64.wrap (k + 1)) + 1)) + 1)) + 1)).tmod 3) == 0))), (IntKind.i64.wrap ((IntKind.i64.wrap ((IntKind.i64.wrap ((IntKind.i64.wrap ((IntKind.i64.wrap (k + 1)) + 1)) + 1)) + 1)) + 1)), (IntKind.i64.wrap (i + 1))))
    else
      some (.inr (a, k))

/-- laws.markEstimateS -/
noncomputable def laws_markEstimateS (a : List Estimate) (k : Int) : Option (Int × (List Estimate)) :=
  (whileE (laws_markEstimateS_l1) (a, k, 0)).bind fun y_6 =>
  ck (y_6.1.length == a.length) <|
  some (y_6.2, y_6.1)

noncomputable def laws_markByteS_l1  : ((List UInt8) × Int × Int) → Option (((List UInt8) × Int × Int) ⊕ ((List UInt8) × Int))
  | (a, k, i) =>
    if (decide (i < (a.length : Int))) then
      ck (ixOk i a.length) <|
      some (.inl ((a.set i.toNat (toU8 (IntKind.u8.wrap k))), (IntKind.i64.wrap (k + 1)), (IntKind.i64.wrap (i + 1))))
    else
      some (.inr (a, k))

/-- laws.markByteS -/
noncomputable def laws_markByteS (a : List UInt8) (k : Int) : Option (Int × (List UInt8)) :=
  (whileE (laws_markByteS_l1) (a, k, 0)).bind fun y_3 =>
  ck (y_3.1.length == a.length) <|
  some (y_3.2, y_3.1)

noncomputable def laws_heldByteS_l1 (a : List UInt8) : (Int × Int) → Option ((Int × Int) ⊕ (Int ⊕ Int))
  | (k, i) =>
    if (decide (i < (a.length : Int))) then
      ck (ixOk i a.length) <|
      if (!(((a.getD i.toNat default).toNat : Int) == (IntKind.u8.wrap k))) then
        some (.inr (.inr (-1)))
      else
        some (.inl ((IntKind.i64.wrap (k + 1)), (IntKind.i64.wrap (i + 1))))
    else
      some (.inr (.inl k))

/-- laws.heldByteS -/
noncomputable def laws_heldByteS (a : List UInt8) (k : Int) : Option Int :=
  (whileE (laws_heldByteS_l1 a) (k, 0)).bind fun y_4 =>
  match y_4 with
  | .inl y_4a =>
    some y_4a
  | .inr y_4b =>
    some y_4b

/-- laws.FnExactPackEstimates -/
noncomputable def laws_FnExactPackEstimates (aList : List Estimate) : Option Bool :=
  (laws_szEstimateS aList 1048576).bind fun y_1 =>
  if (decide (y_1 < 0)) then
    some true
  else
    (laws_toEstimateS aList).bind fun y_3 =>
    (spec_PackEstimates y_3).bind fun y_4 =>
    (impl_PackEstimates y_3).bind fun y_5 =>
    (laws_eqByteS y_5.1 y_4.1).bind fun y_6 =>
    if ((!y_6) || (!(y_5.2 == y_4.2))) then
      some false
    else
      (laws_eqEstimateS y_3 y_3).bind fun y_8 =>
      if (!y_8) then
        some false
      else
        (laws_markEstimateS y_3 1).bind fun y_10 =>
        if (((decide (y_10.1 < 0)) || (!y_6)) || (!(y_5.2 == y_4.2))) then
          some false
        else
          (laws_markByteS y_5.1 1).bind fun y_13 =>
          (laws_heldByteS y_13.2 1).bind fun y_14 =>
          if (decide (y_14 < 0)) then
            some false
          else
            if (!(y_14 == y_13.1)) then
              some false
            else
              some true

noncomputable def laws_toByteS_l1 (a : List UInt8) : ((List UInt8) × Int) → Option (((List UInt8) × Int) ⊕ (List UInt8))
  | (out, i) =>
    if (decide (i < (a.length : Int))) then
      ck (ixOk i a.length) <|
      ck (ixOk i out.length) <|
      some (.inl ((out.set i.toNat (a.getD i.toNat default)), (IntKind.i64.wrap (i + 1))))
    else
      some (.inr out)

/-- laws.toByteS -/
noncomputable def laws_toByteS (a : List UInt8) : Option (List UInt8) :=
  ck (mkOk (a.length : Int) 1) <|
  (whileE (laws_toByteS_l1 a) ((List.replicate (a.length : Int).toNat 0), 0)).bind fun y_5 =>
  some y_5

/-- spec.l25Open -/
noncomputable def spec_l25Open (b : List UInt8) (kind : Int) : Option Int :=
  ck (!(!((decide ((b.length : Int) < 3)) || (decide (8000 < (b.length : Int))))) || ixOk 0 b.length) <|
  if (((decide ((b.length : Int) < 3)) || (decide (8000 < (b.length : Int)))) || (!(((b.getD 0 default).toNat : Int) == kind))) then
    some 8
  else
    ck (ixOk (IntKind.i64.wrap ((b.length : Int) - 2)) b.length) <|
    ck (ixOk (IntKind.i64.wrap ((b.length : Int) - 1)) b.length) <|
    ck (cutOk 0 (IntKind.i64.wrap ((b.length : Int) - 2)) b.length) <|
    (spec_l25Sum (cut b 0 (IntKind.i64.wrap ((b.length : Int) - 2)))).bind fun y_6 =>
    if (!((IntKind.i64.wrap ((IntKind.i64.wrap (256 * ((b.getD (IntKind.i64.wrap ((b.length : Int) - 2)).toNat default).toNat : Int))) + ((b.getD (IntKind.i64.wrap ((b.length : Int) - 1)).toNat default).toNat : Int))) == y_6)) then
      some 9
    else
      some 0

noncomputable def spec_l25Read_l1 (b : List UInt8) : (Int × Int) → Option ((Int × Int) ⊕ (Unit ⊕ (Int × Int × Bool)))
  | (n, i) =>
    if ((decide (i < (b.length : Int))) && (decide (i < 9))) then
      ck (ixOk i b.length) <|
      ck (shOk (IntKind.u64.wrap (IntKind.i64.wrap (7 * i)))) <|
      if (decide (((b.getD i.toNat default).toNat : Int) < 128)) then
        if ((decide (0 < i)) && (((b.getD i.toNat default).toNat : Int) == 0)) then
          some (.inr (.inr (0, 0, false)))
        else
          some (.inr (.inr ((IntKind.i64.wrap (n + (IntKind.i64.wrap ((IntKind.i64.wrap (IntKind.u8.wrap (BitVec.ofInt (IntKind.bits .u8) ((b.getD i.toNat default).toNat : Int) &&& BitVec.ofInt (IntKind.bits .u8) 127).toNat)) * 2 ^ (min (IntKind.u64.wrap (IntKind.i64.wrap (7 * i))).toNat 64))))), (IntKind.i64.wrap (i + 1)), true)))
      else
        some (.inl ((IntKind.i64.wrap (n + (IntKind.i64.wrap ((IntKind.i64.wrap (IntKind.u8.wrap (BitVec.ofInt (IntKind.bits .u8) ((b.getD i.toNat default).toNat : Int) &&& BitVec.ofInt (IntKind.bits .u8) 127).toNat)) * 2 ^ (min (IntKind.u64.wrap (IntKind.i64.wrap (7 * i))).toNat 64))))), (IntKind.i64.wrap (i + 1))))
    else
      some (.inr (.inl ()))

/-- spec.l25Read -/
noncomputable def spec_l25Read (b : List UInt8) : Option (Int × Int × Bool) :=
  (whileE (spec_l25Read_l1 b) (0, 0)).bind fun y_6 =>
  match y_6 with
  | .inl y_6a =>
    some (0, 0, false)
  | .inr y_6b =>
    some (y_6b.1, y_6b.2.1, y_6b.2.2)

/-- (*spec.l25R).number -/
noncomputable def spec_l25R_number (r : L25R) (most : Int) : Option (Int × L25R) :=
  ck (cutOk r.at_ (r.b_.length : Int) r.b_.length) <|
  (spec_l25Read (cut r.b_ r.at_ (r.b_.length : Int))).bind fun y_2 =>
  if ((!y_2.2.2) || (decide (most < y_2.1))) then
    some (0, (L25R.mk r.b_ r.at_ false))
  else
    some (y_2.1, (L25R.mk r.b_ (IntKind.i64.wrap (r.at_ + y_2.2.1)) r.ok_))

noncomputable def spec_l25R_names_l1  : (L25R × (List (List UInt8)) × Int) → Option ((L25R × (List (List UInt8)) × Int) ⊕ (L25R × (List (List UInt8))))
  | (r, out, n) =>
    if ((decide (0 < n)) && r.ok_) then
      (spec_l25R_number r 12).bind fun y_3 =>
      if (decide ((y_3.2.b_.length : Int) < (IntKind.i64.wrap (y_3.2.at_ + y_3.1)))) then
        some (.inr ((L25R.mk y_3.2.b_ y_3.2.at_ false), out))
      else
        ck (cutOk y_3.2.at_ (IntKind.i64.wrap (y_3.2.at_ + y_3.1)) y_3.2.b_.length) <|
        ck (appOk (out.length + ([(cut y_3.2.b_ y_3.2.at_ (IntKind.i64.wrap (y_3.2.at_ + y_3.1)))] : List (List UInt8)).length) 16) <|
        some (.inl ((L25R.mk y_3.2.b_ (IntKind.i64.wrap (y_3.2.at_ + y_3.1)) y_3.2.ok_), (out ++ ([(cut y_3.2.b_ y_3.2.at_ (IntKind.i64.wrap (y_3.2.at_ + y_3.1)))] : List (List UInt8))), (IntKind.i64.wrap (n - 1))))
    else
      some (.inr (r, out))

/-- (*spec.l25R).names -/
noncomputable def spec_l25R_names (r : L25R) : Option ((List (List UInt8)) × L25R) :=
  (spec_l25R_number r 100).bind fun y_1 =>
  (whileE (spec_l25R_names_l1) (y_1.2, ([] : List (List UInt8)), y_1.1)).bind fun y_7 =>
  some (y_7.2, y_7.1)

/-- spec.l25Unfold -/
noncomputable def spec_l25Unfold (n : Int) : Option Int :=
  ck (nz 2) <|
  if ((n.tmod 2) == 1) then
    some (IntKind.i64.wrap ((IntKind.i64.wrap (0 - (IntKind.i64.wrap (n + 1)))).tdiv 2))
  else
    some (IntKind.i64.wrap (n.tdiv 2))

noncomputable def spec_l25List_l1 (stars : List (List UInt8)) (people : List (List UInt8)) : (L25R × (List Estimate) × Int × Int × Int) → Option ((L25R × (List Estimate) × Int × Int × Int) ⊕ (L25R × (List Estimate)))
  | (r, out, time, mag, n) =>
    if ((decide (0 < n)) && r.ok_) then
      (spec_l25R_number r 10000000).bind fun y_6 =>
      (spec_l25R_number y_6.2 (IntKind.i64.wrap ((stars.length : Int) - 1))).bind fun y_7 =>
      (spec_l25R_number y_7.2 (IntKind.i64.wrap ((IntKind.i64.wrap (2 * (people.length : Int))) - 1))).bind fun y_8 =>
      (spec_l25R_number y_8.2 100000).bind fun y_9 =>
      (spec_l25Unfold y_9.1).bind fun y_10 =>
      if (!y_9.2.ok_) then
        some (.inr (y_9.2, out))
      else
        ck (ixOk y_7.1 stars.length) <|
        ck (nz 2) <|
        ck (ixOk (IntKind.i64.wrap (y_8.1.tdiv 2)) people.length) <|
        ck (appOk (out.length + ([(Estimate.mk (IntKind.i64.wrap (time + y_6.1)) (stars.getD y_7.1.toNat default) (people.getD (IntKind.i64.wrap (y_8.1.tdiv 2)).toNat default) (IntKind.i64.wrap (mag + y_10)) ((y_8.1.tmod 2) == 1))] : List Estimate).length) 56) <|
        some (.inl (y_9.2, (out ++ ([(Estimate.mk (IntKind.i64.wrap (time + y_6.1)) (stars.getD y_7.1.toNat default) (people.getD (IntKind.i64.wrap (y_8.1.tdiv 2)).toNat default) (IntKind.i64.wrap (mag + y_10)) ((y_8.1.tmod 2) == 1))] : List Estimate)), (IntKind.i64.wrap (time + y_6.1)), (IntKind.i64.wrap (mag + y_10)), (IntKind.i64.wrap (n - 1))))
    else
      some (.inr (r, out))

noncomputable def spec_l25List_l2 (stars : List (List UInt8)) (people : List (List UInt8)) : (L25R × (List Estimate) × Int × Int × Int) → Option ((L25R × (List Estimate) × Int × Int × Int) ⊕ (L25R × (List Estimate)))
  | (r, out, time, mag, n) =>
    if ((decide (0 < n)) && r.ok_) then
      (spec_l25R_number r 10000000).bind fun y_18 =>
      (spec_l25R_number y_18.2 (IntKind.i64.wrap ((stars.length : Int) - 1))).bind fun y_19 =>
      (spec_l25R_number y_19.2 (IntKind.i64.wrap ((IntKind.i64.wrap (2 * (people.length : Int))) - 1))).bind fun y_20 =>
      (spec_l25R_number y_20.2 100000).bind fun y_21 =>
      (spec_l25Unfold y_21.1).bind fun y_22 =>
      if (!y_21.2.ok_) then
        some (.inr (y_21.2, out))
      else
        ck (ixOk y_19.1 stars.length) <|
        ck (nz 2) <|
        ck (ixOk (IntKind.i64.wrap (y_20.1.tdiv 2)) people.length) <|
        ck (appOk (out.length + ([(Estimate.mk (IntKind.i64.wrap (time + y_18.1)) (stars.getD y_19.1.toNat default) (people.getD (IntKind.i64.wrap (y_20.1.tdiv 2)).toNat default) (IntKind.i64.wrap (mag + y_22)) ((y_20.1.tmod 2) == 1))] : List Estimate).length) 56) <|
        some (.inl (y_21.2, (out ++ ([(Estimate.mk (IntKind.i64.wrap (time + y_18.1)) (stars.getD y_19.1.toNat default) (people.getD (IntKind.i64.wrap (y_20.1.tdiv 2)).toNat default) (IntKind.i64.wrap (mag + y_22)) ((y_20.1.tmod 2) == 1))] : List Estimate)), (IntKind.i64.wrap (time + y_18.1)), (IntKind.i64.wrap (mag + y_22)), (IntKind.i64.wrap (n - 1))))
    else
      some (.inr (r, out))

/-- spec.l25List -/
noncomputable def spec_l25List (r : L25R) : Option ((List Estimate) × Bool × L25R) :=
  (spec_l25R_names r).bind fun y_1 =>
  (spec_l25R_names y_1.2).bind fun y_2 =>
  if y_2.2.ok_ then
    (spec_l25R_number y_2.2 100).bind fun y_4 =>
    (whileE (spec_l25List_l1 y_1.1 y_2.1) (y_4.2, ([] : List Estimate), 0, 0, y_4.1)).bind fun y_16 =>
    some (y_16.2, y_16.1.ok_, y_16.1)
  else
    (whileE (spec_l25List_l2 y_1.1 y_2.1) (y_2.2, ([] : List Estimate), 0, 0, 0)).bind fun y_28 =>
    some (y_28.2, y_28.1.ok_, y_28.1)

/-- spec.UnpackEstimates -/
noncomputable def spec_UnpackEstimates (b : List UInt8) : Option ((List Estimate) × Int) :=
  (spec_l25Open b 69).bind fun y_1 =>
  if (!(y_1 == 0)) then
    some (([] : List Estimate), y_1)
  else
    ck (cutOk 0 (IntKind.i64.wrap ((b.length : Int) - 2)) b.length) <|
    (spec_l25List (L25R.mk (cut b 0 (IntKind.i64.wrap ((b.length : Int) - 2))) 1 true)).bind fun y_4 =>
    ck (!(!(!y_4.2.1)) || (spec_l06Ok y_4.1).isSome) <|
    ck (!(!((!y_4.2.1) || (!((spec_l06Ok y_4.1).getD default)))) || (spec_l25Estimates y_4.1).isSome) <|
    if (((!y_4.2.1) || (!((spec_l06Ok y_4.1).getD default))) || (!(((spec_l25Estimates y_4.1).getD default) == b))) then
      some (([] : List Estimate), 8)
    else
      some (y_4.1, 0)

/-- impl.UnpackEstimates$1 -/
noncomputable def impl_UnpackEstimates_c1 (kind : UInt8) : Option Bool :=
  some ((kind.toNat : Int) == 69)

/-- impl.checkPacked -/
noncomputable def impl_checkPacked__impl_UnpackEstimates_c1 (b : List UInt8) : Option Int :=
  ck (!(!((decide ((b.length : Int) < 3)) || (decide (8000 < (b.length : Int))))) || ixOk 0 b.length) <|
  ck (!(!((decide ((b.length : Int) < 3)) || (decide (8000 < (b.length : Int))))) || (impl_UnpackEstimates_c1 (b.getD 0 default)).isSome) <|
  if (((decide ((b.length : Int) < 3)) || (decide (8000 < (b.length : Int)))) || (!((impl_UnpackEstimates_c1 (b.getD 0 default)).getD default))) then
    some 8
  else
    ck (cutOk 0 (IntKind.i64.wrap ((b.length : Int) - 2)) b.length) <|
    (impl_SumOfBytes (cut b 0 (IntKind.i64.wrap ((b.length : Int) - 2)))).bind fun y_5 =>
    ck (ixOk (IntKind.i64.wrap ((b.length : Int) - 2)) b.length) <|
    ck (ixOk (IntKind.i64.wrap ((IntKind.i64.wrap ((b.length : Int) - 2)) + 1)) b.length) <|
    if (!(y_5 == (IntKind.i64.wrap ((IntKind.i64.wrap (((b.getD (IntKind.i64.wrap ((b.length : Int) - 2)).toNat default).toNat : Int) * 256)) + ((b.getD (IntKind.i64.wrap ((IntKind.i64.wrap ((b.length : Int) - 2)) + 1)).toNat default).toNat : Int))))) then
      some 9
    else
      some 0

noncomputable def impl_ReadNumber_l1 (b : List UInt8) : (Int × Int) → Option ((Int × Int) ⊕ (Unit ⊕ (Int × Int × Bool)))
  | (n, i) =>
    if ((decide (i < (b.length : Int))) && (decide (i < 9))) then
      ck (ixOk i b.length) <|
      ck (shOk (IntKind.i64.wrap (7 * i))) <|
      if (decide (((b.getD i.toNat default).toNat : Int) < 128)) then
        if ((((b.getD i.toNat default).toNat : Int) == 0) && (decide (0 < i))) then
          some (.inr (.inr (0, 0, false)))
        else
          some (.inr (.inr ((IntKind.i64.wrap (BitVec.ofInt (IntKind.bits .i64) n ||| BitVec.ofInt (IntKind.bits .i64) (IntKind.i64.wrap ((IntKind.i64.wrap (IntKind.u8.wrap (BitVec.ofInt (IntKind.bits .u8) ((b.getD i.toNat default).toNat : Int) &&& BitVec.ofInt (IntKind.bits .u8) 127).toNat)) * 2 ^ (min (IntKind.i64.wrap (7 * i)).toNat 64)))).toNat), (IntKind.i64.wrap (i + 1)), true)))
      else
        some (.inl ((IntKind.i64.wrap (BitVec.ofInt (IntKind.bits .i64) n ||| BitVec.ofInt (IntKind.bits .i64) (IntKind.i64.wrap ((IntKind.i64.wrap (IntKind.u8.wrap (BitVec.ofInt (IntKind.bits .u8) ((b.getD i.toNat default).toNat : Int) &&& BitVec.ofInt (IntKind.bits .u8) 127).toNat)) * 2 ^ (min (IntKind.i64.wrap (7 * i)).toNat 64)))).toNat), (IntKind.i64.wrap (i + 1))))
    else
      some (.inr (.inl ()))

/-- impl.ReadNumber -/
noncomputable def impl_ReadNumber (b : List UInt8) : Option (Int × Int × Bool) :=
  (whileE (impl_ReadNumber_l1 b) (0, 0)).bind fun y_6 =>
  match y_6 with
  | .inl y_6a =>
    some (0, 0, false)
  | .inr y_6b =>
    some (y_6b.1, y_6b.2.1, y_6b.2.2)

/-- (*impl.unpacker).number -/
noncomputable def impl_unpacker_number (u : Unpacker) (most : Int) : Option (Int × Unpacker) :=
  (impl_ReadNumber u.rest_).bind fun y_1 =>
  if ((u.bad_ || (!y_1.2.2)) || (decide (most < y_1.1))) then
    some (0, (Unpacker.mk u.rest_ true))
  else
    ck (cutOk y_1.2.1 (u.rest_.length : Int) u.rest_.length) <|
    some (y_1.1, (Unpacker.mk (cut u.rest_ y_1.2.1 (u.rest_.length : Int)) u.bad_))

noncomputable def impl_unpacker_names_l1 (t7 : Int) : (Unpacker × (List (List UInt8)) × Int) → Option ((Unpacker × (List (List UInt8)) × Int) ⊕ ((Unpacker × (List (List UInt8))) ⊕ (Unpacker × (List (List UInt8)))))
  | (u, out, t8) =>
    if (decide (t8 < t7)) then
      (impl_unpacker_number u 12).bind fun y_3 =>
      if (y_3.2.bad_ || (decide ((y_3.2.rest_.length : Int) < y_3.1))) then
        some (.inr (.inr ((Unpacker.mk y_3.2.rest_ true), ([] : List (List UInt8)))))
      else
        ck (cutOk 0 y_3.1 y_3.2.rest_.length) <|
        ck (appOk (out.length + ([(cut y_3.2.rest_ 0 y_3.1)] : List (List UInt8)).length) 16) <|
        ck (cutOk y_3.1 (y_3.2.rest_.length : Int) y_3.2.rest_.length) <|
        some (.inl ((Unpacker.mk (cut y_3.2.rest_ y_3.1 (y_3.2.rest_.length : Int)) y_3.2.bad_), (out ++ ([(cut y_3.2.rest_ 0 y_3.1)] : List (List UInt8))), (IntKind.i64.wrap (t8 + 1))))
    else
      some (.inr (.inl (u, out)))

/-- (*impl.unpacker).names -/
noncomputable def impl_unpacker_names (u : Unpacker) : Option ((List (List UInt8)) × Unpacker) :=
  (impl_unpacker_number u 100).bind fun y_1 =>
  (whileE (impl_unpacker_names_l1 y_1.1) (y_1.2, ([] : List (List UInt8)), 0)).bind fun y_8 =>
  match y_8 with
  | .inl y_8a =>
    some (y_8a.2, y_8a.1)
  | .inr y_8b =>
    some (y_8b.2, y_8b.1)

/-- impl.unfold -/
noncomputable def impl_unfold (n : Int) : Option Int :=
  ck (nz 2) <|
  if ((n.tmod 2) == 1) then
    some (IntKind.i64.wrap ((IntKind.i64.wrap (0 - (IntKind.i64.wrap (n + 1)))).tdiv 2))
  else
    some (IntKind.i64.wrap (n.tdiv 2))

/-- bytes.Equal -/
noncomputable def bytes_Equal (a : List UInt8) (b : List UInt8) : Option Bool :=
  some (a == b)

noncomputable def impl_UnpackEstimates_l1 (b : List UInt8) (stars : List (List UInt8)) (observers : List (List UInt8)) (t33 : Int) : (Unpacker × (List Estimate) × Int × Int × Int) → Option ((Unpacker × (List Estimate) × Int × Int × Int) ⊕ ((Unpacker × (List Estimate)) ⊕ ((List Estimate) × Int)))
  | (u, list, time, mag, t34) =>
    if (decide (t34 < t33)) then
      (impl_unpacker_number u 10000000).bind fun y_8 =>
      (impl_count_string stars).bind fun y_9 =>
      (impl_unpacker_number y_8.2 (IntKind.i64.wrap (y_9 - 1))).bind fun y_10 =>
      (impl_count_string observers).bind fun y_11 =>
      (impl_unpacker_number y_10.2 (IntKind.i64.wrap ((IntKind.i64.wrap (2 * y_11)) - 1))).bind fun y_12 =>
      (impl_unpacker_number y_12.2 44000).bind fun y_13 =>
      (impl_unfold y_13.1).bind fun y_14 =>
      if y_13.2.bad_ then
        some (.inr (.inr (([] : List Estimate), 8)))
      else
        ck (ixOk y_10.1 stars.length) <|
        ck (nz 2) <|
        ck (ixOk (IntKind.i64.wrap (y_12.1.tdiv 2)) observers.length) <|
        ck (appOk (list.length + ([(Estimate.mk (IntKind.i64.wrap (time + y_8.1)) (stars.getD y_10.1.toNat default) (observers.getD (IntKind.i64.wrap (y_12.1.tdiv 2)).toNat default) (IntKind.i64.wrap (mag + y_14)) ((y_12.1.tmod 2) == 1))] : List Estimate).length) 56) <|
        some (.inl (y_13.2, (list ++ ([(Estimate.mk (IntKind.i64.wrap (time + y_8.1)) (stars.getD y_10.1.toNat default) (observers.getD (IntKind.i64.wrap (y_12.1.tdiv 2)).toNat default) (IntKind.i64.wrap (mag + y_14)) ((y_12.1.tmod 2) == 1))] : List Estimate)), (IntKind.i64.wrap (time + y_8.1)), (IntKind.i64.wrap (mag + y_14)), (IntKind.i64.wrap (t34 + 1))))
    else
      some (.inr (.inl (u, list)))

/-- impl.UnpackEstimates -/
noncomputable def impl_UnpackEstimates (b : List UInt8) : Option ((List Estimate) × Int) :=
  (impl_checkPacked__impl_UnpackEstimates_c1 b).bind fun y_1 =>
  if (!(y_1 == 0)) then
    some (([] : List Estimate), y_1)
  else
    ck (cutOk 1 (IntKind.i64.wrap ((b.length : Int) - 2)) b.length) <|
    (impl_unpacker_names (Unpacker.mk (cut b 1 (IntKind.i64.wrap ((b.length : Int) - 2))) false)).bind fun y_4 =>
    (impl_unpacker_names y_4.2).bind fun y_5 =>
    (impl_unpacker_number y_5.2 100).bind fun y_6 =>
    (whileE (impl_UnpackEstimates_l1 b y_4.1 y_5.1 y_6.1) (y_6.2, ([] : List Estimate), 0, 0, 0)).bind fun y_20 =>
    match y_20 with
    | .inl y_20a =>
      (impl_PackEstimates y_20a.2).bind fun y_21 =>
      ck (!(!(y_20a.1.bad_ || (!(y_21.2 == 0)))) || (bytes_Equal y_21.1 b).isSome) <|
      if ((y_20a.1.bad_ || (!(y_21.2 == 0))) || (!((bytes_Equal y_21.1 b).getD default))) then
        some (([] : List Estimate), 8)
      else
        some (y_20a.2, 0)
    | .inr y_20b =>
      some (y_20b.1, y_20b.2)

noncomputable def laws_heldEstimateS_l1 (a : List Estimate) : (Int × Int) → Option ((Int × Int) ⊕ (Int ⊕ Int))
  | (k, i) =>
    if (decide (i < (a.length : Int))) then
      ck (ixOk i a.length) <|
      if (!(((a.getD i.toNat default).Time) == k)) then
        some (.inr (.inr (-1)))
      else
        (laws_markText (IntKind.i64.wrap (k + 1))).bind fun y_4 =>
        if (!(((a.getD i.toNat default).Star) == y_4)) then
          some (.inr (.inr (-1)))
        else
          (laws_markText (IntKind.i64.wrap ((IntKind.i64.wrap (k + 1)) + 1))).bind fun y_6 =>
          if (!(((a.getD i.toNat default).Observer) == y_6)) then
            some (.inr (.inr (-1)))
          else
            if (!(((a.getD i.toNat default).Mag) == (IntKind.i64.wrap ((IntKind.i64.wrap ((IntKind.i64.wrap (k + 1)) + 1)) + 1)))) then
              some (.inr (.inr (-1)))
            else
              ck (nz 3) <|
              if (!(((a.getD i.toNat default).Fainter) == (((IntKind.i64.wrap ((IntKind.i64.wrap ((IntKind.i64.wrap ((IntKind.i64.wrap (k + 1)) + 1)) + 1)) + 1)).tmod 3) == 0))) then
                some (.inr (.inr (-1)))
              else
                some (.inl ((IntKind.i64.wrap ((IntKind.i64.wrap ((IntKind.i64.wrap ((IntKind.i64.wrap ((IntKind.i64.wrap (k + 1)) + 1)) + 1)) + 1)) + 1)), (IntKind.i64.wrap (i + 1))))
    else
      some (.inr (.inl k))

/-- laws.heldEstimateS -/
noncomputable def laws_heldEstimateS (a : List Estimate) (k : Int) : Option Int :=
  (whileE (laws_heldEstimateS_l1 a) (k, 0)).bind fun y_11 =>
  match y_11 with
  | .inl y_11a =>
    some y_11a
  | .inr y_11b =>
    some y_11b

/-- laws.FnExactUnpackEstimates -/
noncomputable def laws_FnExactUnpackEstimates (aB : List UInt8) : Option Bool :=
  if (decide (1048576 < (aB.length : Int))) then
    some true
  else
    (laws_toByteS aB).bind fun y_2 =>
    (spec_UnpackEstimates y_2).bind fun y_3 =>
    (impl_UnpackEstimates y_2).bind fun y_4 =>
    (laws_eqEstimateS y_4.1 y_3.1).bind fun y_5 =>
    if ((!y_5) || (!(y_4.2 == y_3.2))) then
      some false
    else
      (laws_eqByteS y_2 y_2).bind fun y_7 =>
      if (!y_7) then
        some false
      else
        (laws_markByteS y_2 1).bind fun y_9 =>
        if (((decide (y_9.1 < 0)) || (!y_5)) || (!(y_4.2 == y_3.2))) then
          some false
        else
          (laws_markEstimateS y_4.1 1).bind fun y_12 =>
          (laws_heldEstimateS y_12.2 1).bind fun y_13 =>
          if (decide (y_13 < 0)) then
            some false
          else
            if (!(y_13 == y_12.1)) then
              some false
            else
              some true

end Go.Proofs.Ytgbopjgnggdhkaa
