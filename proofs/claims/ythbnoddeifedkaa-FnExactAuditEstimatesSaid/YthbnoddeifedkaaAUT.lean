/- Typed forms of the functions that AU reaches. No condition. -/
import Derived.Test.YthbnoddeifedkaaEngSH
namespace Go.Proofs.Ythbnoddeifedkaa
open Go Go.RowKit
set_option linter.unusedVariables false

structure Estimate where
  Time : Int
  Star : List UInt8
  Observer : List UInt8
  Mag : Int
  Fainter : Bool
  deriving Inhabited, DecidableEq
def Estimate_av (x : Estimate) : AV := .agg ([.int .i64 x.Time, .str x.Star, .str x.Observer, .int .i64 x.Mag, .bool x.Fainter])

structure Star where
  Name : List UInt8
  Ascend : Int
  Decl : Int
  Bright : Int
  Faint : Int
  deriving Inhabited, DecidableEq
def Star_av (x : Star) : AV := .agg ([.str x.Name, .int .i64 x.Ascend, .int .i64 x.Decl, .int .i64 x.Bright, .int .i64 x.Faint])

structure Observer where
  Name : List UInt8
  Shift : Int
  deriving Inhabited, DecidableEq
def Observer_av (x : Observer) : AV := .agg ([.str x.Name, .int .i64 x.Shift])

structure Fault where
  Index : Int
  Kind : Int
  deriving Inhabited, DecidableEq
def Fault_av (x : Fault) : AV := .agg ([.int .i64 x.Index, .int .i64 x.Kind])

attribute [go_sem] Estimate_av Star_av Observer_av Fault_av

/-- laws.szEstimate -/
noncomputable def laws_szEstimate (a : Estimate) (left_ : Int) : Option Int :=
  if (decide ((IntKind.i64.wrap (left_ - (a.Star.length : Int))) < 0)) then
    some (-1)
  else
    if (decide ((IntKind.i64.wrap ((IntKind.i64.wrap (left_ - (a.Star.length : Int))) - (a.Observer.length : Int))) < 0)) then
      some (-1)
    else
      some (IntKind.i64.wrap ((IntKind.i64.wrap (left_ - (a.Star.length : Int))) - (a.Observer.length : Int)))

noncomputable def laws_szEstimateS_l1 (a : List Estimate) : (Int × Int) → Option ((Int × Int) ⊕ (Int ⊕ Int))
  | (left_, i) =>
    if (decide (i < (a.length : Int))) then
      ck (ixOk i a.length) <|
      (laws_szEstimate (a.getD i.toNat default) left_).bind fun y_4 =>
      if (decide (y_4 < 0)) then
        some (.inr (.inr (-1)))
      else
        some (.inl (y_4, (IntKind.i64.wrap (i + 1))))
    else
      some (.inr (.inl left_))

/-- laws.szEstimateS -/
noncomputable def laws_szEstimateS (a : List Estimate) (left_ : Int) : Option Int :=
  if (decide ((IntKind.i64.wrap (left_ - (a.length : Int))) < 0)) then
    some (-1)
  else
    (whileE (laws_szEstimateS_l1 a) ((IntKind.i64.wrap (left_ - (a.length : Int))), 0)).bind fun y_6 =>
    match y_6 with
    | .inl y_6a =>
      some y_6a
    | .inr y_6b =>
      some y_6b

/-- laws.szStar -/
noncomputable def laws_szStar (a : Star) (left_ : Int) : Option Int :=
  if (decide ((IntKind.i64.wrap (left_ - (a.Name.length : Int))) < 0)) then
    some (-1)
  else
    some (IntKind.i64.wrap (left_ - (a.Name.length : Int)))

noncomputable def laws_szStarS_l1 (a : List Star) : (Int × Int) → Option ((Int × Int) ⊕ (Int ⊕ Int))
  | (left_, i) =>
    if (decide (i < (a.length : Int))) then
      ck (ixOk i a.length) <|
      (laws_szStar (a.getD i.toNat default) left_).bind fun y_4 =>
      if (decide (y_4 < 0)) then
        some (.inr (.inr (-1)))
      else
        some (.inl (y_4, (IntKind.i64.wrap (i + 1))))
    else
      some (.inr (.inl left_))

/-- laws.szStarS -/
noncomputable def laws_szStarS (a : List Star) (left_ : Int) : Option Int :=
  if (decide ((IntKind.i64.wrap (left_ - (a.length : Int))) < 0)) then
    some (-1)
  else
    (whileE (laws_szStarS_l1 a) ((IntKind.i64.wrap (left_ - (a.length : Int))), 0)).bind fun y_6 =>
    match y_6 with
    | .inl y_6a =>
      some y_6a
    | .inr y_6b =>
      some y_6b

/-- laws.szObserver -/
noncomputable def laws_szObserver (a : Observer) (left_ : Int) : Option Int :=
  if (decide ((IntKind.i64.wrap (left_ - (a.Name.length : Int))) < 0)) then
    some (-1)
  else
    some (IntKind.i64.wrap (left_ - (a.Name.length : Int)))

noncomputable def laws_szObserverS_l1 (a : List Observer) : (Int × Int) → Option ((Int × Int) ⊕ (Int ⊕ Int))
  | (left_, i) =>
    if (decide (i < (a.length : Int))) then
      ck (ixOk i a.length) <|
      (laws_szObserver (a.getD i.toNat default) left_).bind fun y_4 =>
      if (decide (y_4 < 0)) then
        some (.inr (.inr (-1)))
      else
        some (.inl (y_4, (IntKind.i64.wrap (i + 1))))
    else
      some (.inr (.inl left_))

/-- laws.szObserverS -/
noncomputable def laws_szObserverS (a : List Observer) (left_ : Int) : Option Int :=
  if (decide ((IntKind.i64.wrap (left_ - (a.length : Int))) < 0)) then
    some (-1)
  else
    (whileE (laws_szObserverS_l1 a) ((IntKind.i64.wrap (left_ - (a.length : Int))), 0)).bind fun y_6 =>
    match y_6 with
    | .inl y_6a =>
      some y_6a
    | .inr y_6b =>
      some y_6b

/-- laws.toEstimate -/
noncomputable def laws_toEstimate (a : Estimate) : Option Estimate :=
  some a

noncomputable def laws_toEstimateS_l1 (a : List Estimate) : ((List Estimate) × Int) → Option (((List Estimate) × Int) ⊕ (List Estimate))
  | (out, i) =>
    if (decide (i < (a.length : Int))) then
      ck (ixOk i a.length) <|
      (laws_toEstimate (a.getD i.toNat default)).bind fun y_4 =>
      ck (ixOk i out.length) <|
      some (.inl ((out.set i.toNat y_4), (IntKind.i64.wrap (i + 1))))
    else
      some (.inr out)

/-- laws.toEstimateS -/
noncomputable def laws_toEstimateS (a : List Estimate) : Option (List Estimate) :=
  ck (mkOk (a.length : Int) 56) <|
  (whileE (laws_toEstimateS_l1 a) ((List.replicate (a.length : Int).toNat (Estimate.mk 0 [] [] 0 false)), 0)).bind fun y_6 =>
  some y_6

/-- laws.toStar -/
noncomputable def laws_toStar (a : Star) : Option Star :=
  some a

noncomputable def laws_toStarS_l1 (a : List Star) : ((List Star) × Int) → Option (((List Star) × Int) ⊕ (List Star))
  | (out, i) =>
    if (decide (i < (a.length : Int))) then
      ck (ixOk i a.length) <|
      (laws_toStar (a.getD i.toNat default)).bind fun y_4 =>
      ck (ixOk i out.length) <|
      some (.inl ((out.set i.toNat y_4), (IntKind.i64.wrap (i + 1))))
    else
      some (.inr out)

/-- laws.toStarS -/
noncomputable def laws_toStarS (a : List Star) : Option (List Star) :=
  ck (mkOk (a.length : Int) 48) <|
  (whileE (laws_toStarS_l1 a) ((List.replicate (a.length : Int).toNat (Star.mk [] 0 0 0 0)), 0)).bind fun y_6 =>
  some y_6

/-- laws.toObserver -/
noncomputable def laws_toObserver (a : Observer) : Option Observer :=
  some a

noncomputable def laws_toObserverS_l1 (a : List Observer) : ((List Observer) × Int) → Option (((List Observer) × Int) ⊕ (List Observer))
  | (out, i) =>
    if (decide (i < (a.length : Int))) then
      ck (ixOk i a.length) <|
      (laws_toObserver (a.getD i.toNat default)).bind fun y_4 =>
      ck (ixOk i out.length) <|
      some (.inl ((out.set i.toNat y_4), (IntKind.i64.wrap (i + 1))))
    else
      some (.inr out)

/-- laws.toObserverS -/
noncomputable def laws_toObserverS (a : List Observer) : Option (List Observer) :=
  ck (mkOk (a.length : Int) 24) <|
  (whileE (laws_toObserverS_l1 a) ((List.replicate (a.length : Int).toNat (Observer.mk [] 0)), 0)).bind fun y_6 =>
  some y_6

/-- spec.l00In -/
noncomputable def spec_l00In (n : Int) (low : Int) (high : Int) : Option Bool :=
  some ((decide (low ≤ n)) && (decide (n ≤ high)))

/-- spec.l06Time -/
noncomputable def spec_l06Time (n : Int) : Option Bool :=
  (spec_l00In n 0 10000000).bind fun y_1 =>
  some y_1

/-- spec.l01Small -/
noncomputable def spec_l01Small (c : UInt8) : Option Bool :=
  some ((decide (97 ≤ (c.toNat : Int))) && (decide ((c.toNat : Int) ≤ 122)))

/-- spec.l01Digit -/
noncomputable def spec_l01Digit (c : UInt8) : Option Bool :=
  some ((decide (48 ≤ (c.toNat : Int))) && (decide ((c.toNat : Int) ≤ 57)))

noncomputable def spec_IsName_l1 (s_ : List UInt8) : Int → Option (Int ⊕ (Unit ⊕ Bool))
  | i =>
    if (decide (i < (s_.length : Int))) then
      ck (ixOk i s_.length) <|
      (spec_l01Small (s_.getD i.toNat 0)).bind fun y_6 =>
      ck (!(!y_6) || (spec_l01Digit (s_.getD i.toNat 0)).isSome) <|
      if (((!y_6) && (!((spec_l01Digit (s_.getD i.toNat 0)).getD default))) && (!(((s_.getD i.toNat 0).toNat : Int) == 45))) then
        some (.inr (.inr false))
      else
        some (.inl (IntKind.i64.wrap (i + 1)))
    else
      some (.inr (.inl ()))

/-- spec.IsName -/
noncomputable def spec_IsName (s_ : List UInt8) : Option Bool :=
  ck (!(!((s_ == ([] : List UInt8)) || (decide (12 < (s_.length : Int))))) || ixOk 0 s_.length) <|
  ck (!(!((s_ == ([] : List UInt8)) || (decide (12 < (s_.length : Int))))) || (spec_l01Small (s_.getD 0 0)).isSome) <|
  if (((s_ == ([] : List UInt8)) || (decide (12 < (s_.length : Int)))) || (!((spec_l01Small (s_.getD 0 0)).getD default))) then
    some false
  else
    (whileE (spec_IsName_l1 s_) 0).bind fun y_9 =>
    match y_9 with
    | .inl y_9a =>
      some true
    | .inr y_9b =>
      some y_9b

/-- spec.l02Mag -/
noncomputable def spec_l02Mag (m : Int) : Option Bool :=
  (spec_l00In m (-2000) 20000).bind fun y_1 =>
  some y_1

/-- spec.l06One -/
noncomputable def spec_l06One (e_ : Estimate) : Option Bool :=
  (spec_l06Time e_.Time).bind fun y_1 =>
  ck (!y_1 || (spec_IsName e_.Star).isSome) <|
  ck (!(y_1 && ((spec_IsName e_.Star).getD default)) || (spec_IsName e_.Observer).isSome) <|
  ck (!((y_1 && ((spec_IsName e_.Star).getD default)) && ((spec_IsName e_.Observer).getD default)) || (spec_l02Mag e_.Mag).isSome) <|
  some (((y_1 && ((spec_IsName e_.Star).getD default)) && ((spec_IsName e_.Observer).getD default)) && ((spec_l02Mag e_.Mag).getD default))

/-- spec.l06Before -/
noncomputable def spec_l06Before (a : Estimate) (b : Estimate) : Option Bool :=
  if (!(a.Time == b.Time)) then
    some (decide (a.Time < b.Time))
  else
    if (!(a.Star == b.Star)) then
      some (Op.bytesLess a.Star b.Star)
    else
      some (Op.bytesLess a.Observer b.Observer)

noncomputable def spec_l06Ok_l1 (list : List Estimate) : Int → Option (Int ⊕ (Unit ⊕ Bool))
  | i =>
    if (decide (i < (list.length : Int))) then
      ck (ixOk i list.length) <|
      (spec_l06One (list.getD i.toNat default)).bind fun y_3 =>
      ck (!((!(!y_3)) && (decide (0 < i))) || ixOk (IntKind.i64.wrap (i - 1)) list.length) <|
      ck (!((!(!y_3)) && (decide (0 < i))) || (spec_l06Before (list.getD (IntKind.i64.wrap (i - 1)).toNat default) (list.getD i.toNat default)).isSome) <|
      if ((!y_3) || ((decide (0 < i)) && (!((spec_l06Before (list.getD (IntKind.i64.wrap (i - 1)).toNat default) (list.getD i.toNat default)).getD default)))) then
        some (.inr (.inr false))
      else
        some (.inl (IntKind.i64.wrap (i + 1)))
    else
      some (.inr (.inl ()))

/-- spec.l06Ok -/
noncomputable def spec_l06Ok (list : List Estimate) : Option Bool :=
  (whileE (spec_l06Ok_l1 list) 0).bind fun y_7 =>
  match y_7 with
  | .inl y_7a =>
    some (decide ((list.length : Int) ≤ 100))
  | .inr y_7b =>
    some y_7b

/-- spec.l04Ascend -/
noncomputable def spec_l04Ascend (n : Int) : Option Bool :=
  (spec_l00In n 0 86399).bind fun y_1 =>
  some y_1

/-- spec.l04Decl -/
noncomputable def spec_l04Decl (n : Int) : Option Bool :=
  (spec_l00In n (-324000) 324000).bind fun y_1 =>
  some y_1

/-- spec.l04One -/
noncomputable def spec_l04One (x : Star) : Option Bool :=
  (spec_IsName x.Name).bind fun y_1 =>
  ck (!y_1 || (spec_l04Ascend x.Ascend).isSome) <|
  ck (!(y_1 && ((spec_l04Ascend x.Ascend).getD default)) || (spec_l04Decl x.Decl).isSome) <|
  ck (!((y_1 && ((spec_l04Ascend x.Ascend).getD default)) && ((spec_l04Decl x.Decl).getD default)) || (spec_l02Mag x.Bright).isSome) <|
  ck (!(((y_1 && ((spec_l04Ascend x.Ascend).getD default)) && ((spec_l04Decl x.Decl).getD default)) && ((spec_l02Mag x.Bright).getD default)) || (spec_l02Mag x.Faint).isSome) <|
  some (((((y_1 && ((spec_l04Ascend x.Ascend).getD default)) && ((spec_l04Decl x.Decl).getD default)) && ((spec_l02Mag x.Bright).getD default)) && ((spec_l02Mag x.Faint).getD default)) && (decide (x.Bright ≤ x.Faint)))

noncomputable def spec_l04Ok_l1 (list : List Star) : Int → Option (Int ⊕ (Unit ⊕ Bool))
  | i =>
    if (decide (i < (list.length : Int))) then
      ck (ixOk i list.length) <|
      (spec_l04One (list.getD i.toNat default)).bind fun y_3 =>
      ck (!((!(!y_3)) && (decide (0 < i))) || ixOk (IntKind.i64.wrap (i - 1)) list.length) <|
      if ((!y_3) || ((decide (0 < i)) && (!(Op.bytesLess ((list.getD (IntKind.i64.wrap (i - 1)).toNat default).Name) ((list.getD i.toNat default).Name))))) then
        some (.inr (.inr false))
      else
        some (.inl (IntKind.i64.wrap (i + 1)))
    else
      some (.inr (.inl ()))

/-- spec.l04Ok -/
noncomputable def spec_l04Ok (list : List Star) : Option Bool :=
  (whileE (spec_l04Ok_l1 list) 0).bind fun y_6 =>
  match y_6 with
  | .inl y_6a =>
    some (decide ((list.length : Int) ≤ 60))
  | .inr y_6b =>
    some y_6b

/-- spec.l05One -/
noncomputable def spec_l05One (x : Observer) : Option Bool :=
  (spec_IsName x.Name).bind fun y_1 =>
  ck (!y_1 || (spec_l00In x.Shift (-2000) 2000).isSome) <|
  some (y_1 && ((spec_l00In x.Shift (-2000) 2000).getD default))

noncomputable def spec_l05Ok_l1 (list : List Observer) : Int → Option (Int ⊕ (Unit ⊕ Bool))
  | i =>
    if (decide (i < (list.length : Int))) then
      ck (ixOk i list.length) <|
      (spec_l05One (list.getD i.toNat default)).bind fun y_3 =>
      ck (!((!(!y_3)) && (decide (0 < i))) || ixOk (IntKind.i64.wrap (i - 1)) list.length) <|
      if ((!y_3) || ((decide (0 < i)) && (!(Op.bytesLess ((list.getD (IntKind.i64.wrap (i - 1)).toNat default).Name) ((list.getD i.toNat default).Name))))) then
        some (.inr (.inr false))
      else
        some (.inl (IntKind.i64.wrap (i + 1)))
    else
      some (.inr (.inl ()))

/-- spec.l05Ok -/
noncomputable def spec_l05Ok (list : List Observer) : Option Bool :=
  (whileE (spec_l05Ok_l1 list) 0).bind fun y_6 =>
  match y_6 with
  | .inl y_6a =>
    some (decide ((list.length : Int) ≤ 40))
  | .inr y_6b =>
    some y_6b

noncomputable def spec_l04Find_l1 (list : List Star) (name : List UInt8) : Int → Option (Int ⊕ (Unit ⊕ Int))
  | i =>
    if (decide (i < (list.length : Int))) then
      ck (ixOk i list.length) <|
      if (((list.getD i.toNat default).Name) == name) then
        some (.inr (.inr i))
      else
        some (.inl (IntKind.i64.wrap (i + 1)))
    else
      some (.inr (.inl ()))

/-- spec.l04Find -/
noncomputable def spec_l04Find (list : List Star) (name : List UInt8) : Option Int :=
  (whileE (spec_l04Find_l1 list name) 0).bind fun y_4 =>
  match y_4 with
  | .inl y_4a =>
    some (-1)
  | .inr y_4b =>
    some y_4b

noncomputable def spec_l05Find_l1 (list : List Observer) (name : List UInt8) : Int → Option (Int ⊕ (Unit ⊕ Int))
  | i =>
    if (decide (i < (list.length : Int))) then
      ck (ixOk i list.length) <|
      if (((list.getD i.toNat default).Name) == name) then
        some (.inr (.inr i))
      else
        some (.inl (IntKind.i64.wrap (i + 1)))
    else
      some (.inr (.inl ()))

/-- spec.l05Find -/
noncomputable def spec_l05Find (list : List Observer) (name : List UInt8) : Option Int :=
  (whileE (spec_l05Find_l1 list name) 0).bind fun y_4 =>
  match y_4 with
  | .inl y_4a =>
    some (-1)
  | .inr y_4b =>
    some y_4b

noncomputable def spec_l26Of_l1 (list : List Estimate) (out : List Int) (e_ : Estimate) : Int → Option (Int ⊕ (List Int))
  | j =>
    if (decide (0 ≤ j)) then
      ck (ixOk j list.length) <|
      if (((((list.getD j.toNat default).Star) == e_.Star) && (((list.getD j.toNat default).Observer) == e_.Observer)) && (decide ((IntKind.i64.wrap (e_.Time - ((list.getD j.toNat default).Time))) < 100))) then
        ck (appOk (out.length + ([5] : List Int).length) 8) <|
        some (.inr (out ++ ([5] : List Int)))
      else
        some (.inl (IntKind.i64.wrap (j - 1)))
    else
      some (.inr out)

noncomputable def spec_l26Of_l2 (list : List Estimate) (out : List Int) (e_ : Estimate) : Int → Option (Int ⊕ (List Int))
  | j =>
    if (decide (0 ≤ j)) then
      ck (ixOk j list.length) <|
      if (((((list.getD j.toNat default).Star) == e_.Star) && (((list.getD j.toNat default).Observer) == e_.Observer)) && (decide ((IntKind.i64.wrap (e_.Time - ((list.getD j.toNat default).Time))) < 100))) then
        ck (appOk (out.length + ([5] : List Int).length) 8) <|
        some (.inr (out ++ ([5] : List Int)))
      else
        some (.inl (IntKind.i64.wrap (j - 1)))
    else
      some (.inr out)

noncomputable def spec_l26Of_l3 (list : List Estimate) (out : List Int) (e_ : Estimate) : Int → Option (Int ⊕ (List Int))
  | j =>
    if (decide (0 ≤ j)) then
      ck (ixOk j list.length) <|
      if (((((list.getD j.toNat default).Star) == e_.Star) && (((list.getD j.toNat default).Observer) == e_.Observer)) && (decide ((IntKind.i64.wrap (e_.Time - ((list.getD j.toNat default).Time))) < 100))) then
        ck (appOk (out.length + ([5] : List Int).length) 8) <|
        some (.inr (out ++ ([5] : List Int)))
      else
        some (.inl (IntKind.i64.wrap (j - 1)))
    else
      some (.inr out)

noncomputable def spec_l26Of_l4 (list : List Estimate) (out : List Int) (e_ : Estimate) : Int → Option (Int ⊕ (List Int))
  | j =>
    if (decide (0 ≤ j)) then
      ck (ixOk j list.length) <|
      if (((((list.getD j.toNat default).Star) == e_.Star) && (((list.getD j.toNat default).Observer) == e_.Observer)) && (decide ((IntKind.i64.wrap (e_.Time - ((list.getD j.toNat default).Time))) < 100))) then
        ck (appOk (out.length + ([5] : List Int).length) 8) <|
        some (.inr (out ++ ([5] : List Int)))
      else
        some (.inl (IntKind.i64.wrap (j - 1)))
    else
      some (.inr out)

noncomputable def spec_l26Of_l5 (list : List Estimate) (out : List Int) (e_ : Estimate) : Int → Option (Int ⊕ (List Int))
  | j =>
    if (decide (0 ≤ j)) then
      ck (ixOk j list.length) <|
      if (((((list.getD j.toNat default).Star) == e_.Star) && (((list.getD j.toNat default).Observer) == e_.Observer)) && (decide ((IntKind.i64.wrap (e_.Time - ((list.getD j.toNat default).Time))) < 100))) then
        ck (appOk (out.length + ([5] : List Int).length) 8) <|
        some (.inr (out ++ ([5] : List Int)))
      else
        some (.inl (IntKind.i64.wrap (j - 1)))
    else
      some (.inr out)

noncomputable def spec_l26Of_l6 (list : List Estimate) (out : List Int) (e_ : Estimate) : Int → Option (Int ⊕ (List Int))
  | j =>
    if (decide (0 ≤ j)) then
      ck (ixOk j list.length) <|
      if (((((list.getD j.toNat default).Star) == e_.Star) && (((list.getD j.toNat default).Observer) == e_.Observer)) && (decide ((IntKind.i64.wrap (e_.Time - ((list.getD j.toNat default).Time))) < 100))) then
        ck (appOk (out.length + ([5] : List Int).length) 8) <|
        some (.inr (out ++ ([5] : List Int)))
      else
        some (.inl (IntKind.i64.wrap (j - 1)))
    else
      some (.inr out)

noncomputable def spec_l26Of_l7 (list : List Estimate) (out : List Int) (e_ : Estimate) : Int → Option (Int ⊕ (List Int))
  | j =>
    if (decide (0 ≤ j)) then
      ck (ixOk j list.length) <|
      if (((((list.getD j.toNat default).Star) == e_.Star) && (((list.getD j.toNat default).Observer) == e_.Observer)) && (decide ((IntKind.i64.wrap (e_.Time - ((list.getD j.toNat default).Time))) < 100))) then
        ck (appOk (out.length + ([5] : List Int).length) 8) <|
        some (.inr (out ++ ([5] : List Int)))
      else
        some (.inl (IntKind.i64.wrap (j - 1)))
    else
      some (.inr out)

noncomputable def spec_l26Of_l8 (list : List Estimate) (out : List Int) (e_ : Estimate) : Int → Option (Int ⊕ (List Int))
  | j =>
    if (decide (0 ≤ j)) then
      ck (ixOk j list.length) <|
      if (((((list.getD j.toNat default).Star) == e_.Star) && (((list.getD j.toNat default).Observer) == e_.Observer)) && (decide ((IntKind.i64.wrap (e_.Time - ((list.getD j.toNat default).Time))) < 100))) then
        ck (appOk (out.length + ([5] : List Int).length) 8) <|
        some (.inr (out ++ ([5] : List Int)))
      else
        some (.inl (IntKind.i64.wrap (j - 1)))
    else
      some (.inr out)

noncomputable def spec_l26Of_l9 (list : List Estimate) (out : List Int) (e_ : Estimate) : Int → Option (Int ⊕ (List Int))
  | j =>
    if (decide (0 ≤ j)) then
      ck (ixOk j list.length) <|
      if (((((list.getD j.toNat default).Star) == e_.Star) && (((list.getD j.toNat default).Observer) == e_.Observer)) && (decide ((IntKind.i64.wrap (e_.Time - ((list.getD j.toNat default).Time))) < 100))) then
        ck (appOk (out.length + ([5] : List Int).length) 8) <|
        some (.inr (out ++ ([5] : List Int)))
      else
        some (.inl (IntKind.i64.wrap (j - 1)))
    else
      some (.inr out)

noncomputable def spec_l26Of_l10 (list : List Estimate) (out : List Int) (e_ : Estimate) : Int → Option (Int ⊕ (List Int))
  | j =>
    if (decide (0 ≤ j)) then
      ck (ixOk j list.length) <|
      if (((((list.getD j.toNat default).Star) == e_.Star) && (((list.getD j.toNat default).Observer) == e_.Observer)) && (decide ((IntKind.i64.wrap (e_.Time - ((list.getD j.toNat default).Time))) < 100))) then
        ck (appOk (out.length + ([5] : List Int).length) 8) <|
        some (.inr (out ++ ([5] : List Int)))
      else
        some (.inl (IntKind.i64.wrap (j - 1)))
    else
      some (.inr out)

noncomputable def spec_l26Of_l11 (list : List Estimate) (out : List Int) (e_ : Estimate) : Int → Option (Int ⊕ (List Int))
  | j =>
    if (decide (0 ≤ j)) then
      ck (ixOk j list.length) <|
      if (((((list.getD j.toNat default).Star) == e_.Star) && (((list.getD j.toNat default).Observer) == e_.Observer)) && (decide ((IntKind.i64.wrap (e_.Time - ((list.getD j.toNat default).Time))) < 100))) then
        ck (appOk (out.length + ([5] : List Int).length) 8) <|
        some (.inr (out ++ ([5] : List Int)))
      else
        some (.inl (IntKind.i64.wrap (j - 1)))
    else
      some (.inr out)

noncomputable def spec_l26Of_l12 (list : List Estimate) (out : List Int) (e_ : Estimate) : Int → Option (Int ⊕ (List Int))
  | j =>
    if (decide (0 ≤ j)) then
      ck (ixOk j list.length) <|
      if (((((list.getD j.toNat default).Star) == e_.Star) && (((list.getD j.toNat default).Observer) == e_.Observer)) && (decide ((IntKind.i64.wrap (e_.Time - ((list.getD j.toNat default).Time))) < 100))) then
        ck (appOk (out.length + ([5] : List Int).length) 8) <|
        some (.inr (out ++ ([5] : List Int)))
      else
        some (.inl (IntKind.i64.wrap (j - 1)))
    else
      some (.inr out)

noncomputable def spec_l26Of_l13 (list : List Estimate) (out : List Int) (e_ : Estimate) : Int → Option (Int ⊕ (List Int))
  | j =>
    if (decide (0 ≤ j)) then
      ck (ixOk j list.length) <|
      if (((((list.getD j.toNat default).Star) == e_.Star) && (((list.getD j.toNat default).Observer) == e_.Observer)) && (decide ((IntKind.i64.wrap (e_.Time - ((list.getD j.toNat default).Time))) < 100))) then
        ck (appOk (out.length + ([5] : List Int).length) 8) <|
        some (.inr (out ++ ([5] : List Int)))
      else
        some (.inl (IntKind.i64.wrap (j - 1)))
    else
      some (.inr out)

noncomputable def spec_l26Of_l14 (list : List Estimate) (out : List Int) (e_ : Estimate) : Int → Option (Int ⊕ (List Int))
  | j =>
    if (decide (0 ≤ j)) then
      ck (ixOk j list.length) <|
      if (((((list.getD j.toNat default).Star) == e_.Star) && (((list.getD j.toNat default).Observer) == e_.Observer)) && (decide ((IntKind.i64.wrap (e_.Time - ((list.getD j.toNat default).Time))) < 100))) then
        ck (appOk (out.length + ([5] : List Int).length) 8) <|
        some (.inr (out ++ ([5] : List Int)))
      else
        some (.inl (IntKind.i64.wrap (j - 1)))
    else
      some (.inr out)

noncomputable def spec_l26Of_l15 (list : List Estimate) (out : List Int) (e_ : Estimate) : Int → Option (Int ⊕ (List Int))
  | j =>
    if (decide (0 ≤ j)) then
      ck (ixOk j list.length) <|
      if (((((list.getD j.toNat default).Star) == e_.Star) && (((list.getD j.toNat default).Observer) == e_.Observer)) && (decide ((IntKind.i64.wrap (e_.Time - ((list.getD j.toNat default).Time))) < 100))) then
        ck (appOk (out.length + ([5] : List Int).length) 8) <|
        some (.inr (out ++ ([5] : List Int)))
      else
        some (.inl (IntKind.i64.wrap (j - 1)))
    else
      some (.inr out)

noncomputable def spec_l26Of_l16 (list : List Estimate) (out : List Int) (e_ : Estimate) : Int → Option (Int ⊕ (List Int))
  | j =>
    if (decide (0 ≤ j)) then
      ck (ixOk j list.length) <|
      if (((((list.getD j.toNat default).Star) == e_.Star) && (((list.getD j.toNat default).Observer) == e_.Observer)) && (decide ((IntKind.i64.wrap (e_.Time - ((list.getD j.toNat default).Time))) < 100))) then
        ck (appOk (out.length + ([5] : List Int).length) 8) <|
        some (.inr (out ++ ([5] : List Int)))
      else
        some (.inl (IntKind.i64.wrap (j - 1)))
    else
      some (.inr out)

/-- spec.l26Of -/
noncomputable def spec_l26Of (list : List Estimate) (i : Int) (stars : List Star) (observers : List Observer) (margin : Int) : Option (List Int) :=
  ck (ixOk i list.length) <|
  (spec_l04Find stars ((list.getD i.toNat default).Star)).bind fun y_2 =>
  if (decide (y_2 < 0)) then
    ck (appOk (([] : List Int).length + ([1] : List Int).length) 8) <|
    (spec_l05Find observers ((list.getD i.toNat default).Observer)).bind fun y_5 =>
    if (decide (y_5 < 0)) then
      ck (appOk ((([] : List Int) ++ ([1] : List Int)).length + ([2] : List Int).length) 8) <|
      ck (!(decide (0 ≤ y_2)) || ixOk y_2 stars.length) <|
      if ((decide (0 ≤ y_2)) && (decide (((list.getD i.toNat default).Mag) < (IntKind.i64.wrap (((stars.getD y_2.toNat default).Bright) - margin))))) then
        ck (appOk (((([] : List Int) ++ ([1] : List Int)) ++ ([2] : List Int)).length + ([3] : List Int).length) 8) <|
        ck (!((decide (0 ≤ y_2)) && (!((list.getD i.toNat default).Fainter))) || ixOk y_2 stars.length) <|
        if (((decide (0 ≤ y_2)) && (!((list.getD i.toNat default).Fainter))) && (decide ((IntKind.i64.wrap (((stars.getD y_2.toNat default).Faint) + margin)) < ((list.getD i.toNat default).Mag)))) then
          ck (appOk ((((([] : List Int) ++ ([1] : List Int)) ++ ([2] : List Int)) ++ ([3] : List Int)).length + ([4] : List Int).length) 8) <|
          (whileE (spec_l26Of_l1 list ((((([] : List Int) ++ ([1] : List Int)) ++ ([2] : List Int)) ++ ([3] : List Int)) ++ ([4] : List Int)) (list.getD i.toNat default)) (IntKind.i64.wrap (i - 1))).bind fun y_18 =>
          some y_18
        else
          (whileE (spec_l26Of_l2 list (((([] : List Int) ++ ([1] : List Int)) ++ ([2] : List Int)) ++ ([3] : List Int)) (list.getD i.toNat default)) (IntKind.i64.wrap (i - 1))).bind fun y_23 =>
          some y_23
      else
        ck (!((decide (0 ≤ y_2)) && (!((list.getD i.toNat default).Fainter))) || ixOk y_2 stars.length) <|
        if (((decide (0 ≤ y_2)) && (!((list.getD i.toNat default).Fainter))) && (decide ((IntKind.i64.wrap (((stars.getD y_2.toNat default).Faint) + margin)) < ((list.getD i.toNat default).Mag)))) then
          ck (appOk (((([] : List Int) ++ ([1] : List Int)) ++ ([2] : List Int)).length + ([4] : List Int).length) 8) <|
          (whileE (spec_l26Of_l3 list (((([] : List Int) ++ ([1] : List Int)) ++ ([2] : List Int)) ++ ([4] : List Int)) (list.getD i.toNat default)) (IntKind.i64.wrap (i - 1))).bind fun y_31 =>
          some y_31
        else
          (whileE (spec_l26Of_l4 list ((([] : List Int) ++ ([1] : List Int)) ++ ([2] : List Int)) (list.getD i.toNat default)) (IntKind.i64.wrap (i - 1))).bind fun y_36 =>
          some y_36
    else
      ck (!(decide (0 ≤ y_2)) || ixOk y_2 stars.length) <|
      if ((decide (0 ≤ y_2)) && (decide (((list.getD i.toNat default).Mag) < (IntKind.i64.wrap (((stars.getD y_2.toNat default).Bright) - margin))))) then
        ck (appOk ((([] : List Int) ++ ([1] : List Int)).length + ([3] : List Int).length) 8) <|
        ck (!((decide (0 ≤ y_2)) && (!((list.getD i.toNat default).Fainter))) || ixOk y_2 stars.length) <|
        if (((decide (0 ≤ y_2)) && (!((list.getD i.toNat default).Fainter))) && (decide ((IntKind.i64.wrap (((stars.getD y_2.toNat default).Faint) + margin)) < ((list.getD i.toNat default).Mag)))) then
          ck (appOk (((([] : List Int) ++ ([1] : List Int)) ++ ([3] : List Int)).length + ([4] : List Int).length) 8) <|
          (whileE (spec_l26Of_l5 list (((([] : List Int) ++ ([1] : List Int)) ++ ([3] : List Int)) ++ ([4] : List Int)) (list.getD i.toNat default)) (IntKind.i64.wrap (i - 1))).bind fun y_47 =>
          some y_47
        else
          (whileE (spec_l26Of_l6 list ((([] : List Int) ++ ([1] : List Int)) ++ ([3] : List Int)) (list.getD i.toNat default)) (IntKind.i64.wrap (i - 1))).bind fun y_52 =>
          some y_52
      else
        ck (!((decide (0 ≤ y_2)) && (!((list.getD i.toNat default).Fainter))) || ixOk y_2 stars.length) <|
        if (((decide (0 ≤ y_2)) && (!((list.getD i.toNat default).Fainter))) && (decide ((IntKind.i64.wrap (((stars.getD y_2.toNat default).Faint) + margin)) < ((list.getD i.toNat default).Mag)))) then
          ck (appOk ((([] : List Int) ++ ([1] : List Int)).length + ([4] : List Int).length) 8) <|
          (whileE (spec_l26Of_l7 list ((([] : List Int) ++ ([1] : List Int)) ++ ([4] : List Int)) (list.getD i.toNat default)) (IntKind.i64.wrap (i - 1))).bind fun y_60 =>
          some y_60
        else
          (whileE (spec_l26Of_l8 list (([] : List Int) ++ ([1] : List Int)) (list.getD i.toNat default)) (IntKind.i64.wrap (i - 1))).bind fun y_65 =>
          some y_65
  else
    (spec_l05Find observers ((list.getD i.toNat default).Observer)).bind fun y_66 =>
    if (decide (y_66 < 0)) then
      ck (appOk (([] : List Int).length + ([2] : List Int).length) 8) <|
      ck (!(decide (0 ≤ y_2)) || ixOk y_2 stars.length) <|
      if ((decide (0 ≤ y_2)) && (decide (((list.getD i.toNat default).Mag) < (IntKind.i64.wrap (((stars.getD y_2.toNat default).Bright) - margin))))) then
        ck (appOk ((([] : List Int) ++ ([2] : List Int)).length + ([3] : List Int).length) 8) <|
        ck (!((decide (0 ≤ y_2)) && (!((list.getD i.toNat default).Fainter))) || ixOk y_2 stars.length) <|
        if (((decide (0 ≤ y_2)) && (!((list.getD i.toNat default).Fainter))) && (decide ((IntKind.i64.wrap (((stars.getD y_2.toNat default).Faint) + margin)) < ((list.getD i.toNat default).Mag)))) then
          ck (appOk (((([] : List Int) ++ ([2] : List Int)) ++ ([3] : List Int)).length + ([4] : List Int).length) 8) <|
          (whileE (spec_l26Of_l9 list (((([] : List Int) ++ ([2] : List Int)) ++ ([3] : List Int)) ++ ([4] : List Int)) (list.getD i.toNat default)) (IntKind.i64.wrap (i - 1))).bind fun y_79 =>
          some y_79
        else
          (whileE (spec_l26Of_l10 list ((([] : List Int) ++ ([2] : List Int)) ++ ([3] : List Int)) (list.getD i.toNat default)) (IntKind.i64.wrap (i - 1))).bind fun y_84 =>
          some y_84
      else
        ck (!((decide (0 ≤ y_2)) && (!((list.getD i.toNat default).Fainter))) || ixOk y_2 stars.length) <|
        if (((decide (0 ≤ y_2)) && (!((list.getD i.toNat default).Fainter))) && (decide ((IntKind.i64.wrap (((stars.getD y_2.toNat default).Faint) + margin)) < ((list.getD i.toNat default).Mag)))) then
          ck (appOk ((([] : List Int) ++ ([2] : List Int)).length + ([4] : List Int).length) 8) <|
          (whileE (spec_l26Of_l11 list ((([] : List Int) ++ ([2] : List Int)) ++ ([4] : List Int)) (list.getD i.toNat default)) (IntKind.i64.wrap (i - 1))).bind fun y_92 =>
          some y_92
        else
          (whileE (spec_l26Of_l12 list (([] : List Int) ++ ([2] : List Int)) (list.getD i.toNat default)) (IntKind.i64.wrap (i - 1))).bind fun y_97 =>
          some y_97
    else
      ck (!(decide (0 ≤ y_2)) || ixOk y_2 stars.length) <|
      if ((decide (0 ≤ y_2)) && (decide (((list.getD i.toNat default).Mag) < (IntKind.i64.wrap (((stars.getD y_2.toNat default).Bright) - margin))))) then
        ck (appOk (([] : List Int).length + ([3] : List Int).length) 8) <|
        ck (!((decide (0 ≤ y_2)) && (!((list.getD i.toNat default).Fainter))) || ixOk y_2 stars.length) <|
        if (((decide (0 ≤ y_2)) && (!((list.getD i.toNat default).Fainter))) && (decide ((IntKind.i64.wrap (((stars.getD y_2.toNat default).Faint) + margin)) < ((list.getD i.toNat default).Mag)))) then
          ck (appOk ((([] : List Int) ++ ([3] : List Int)).length + ([4] : List Int).length) 8) <|
          (whileE (spec_l26Of_l13 list ((([] : List Int) ++ ([3] : List Int)) ++ ([4] : List Int)) (list.getD i.toNat default)) (IntKind.i64.wrap (i - 1))).bind fun y_108 =>
          some y_108
        else
          (whileE (spec_l26Of_l14 list (([] : List Int) ++ ([3] : List Int)) (list.getD i.toNat default)) (IntKind.i64.wrap (i - 1))).bind fun y_113 =>
          some y_113
      else
        ck (!((decide (0 ≤ y_2)) && (!((list.getD i.toNat default).Fainter))) || ixOk y_2 stars.length) <|
        if (((decide (0 ≤ y_2)) && (!((list.getD i.toNat default).Fainter))) && (decide ((IntKind.i64.wrap (((stars.getD y_2.toNat default).Faint) + margin)) < ((list.getD i.toNat default).Mag)))) then
          ck (appOk (([] : List Int).length + ([4] : List Int).length) 8) <|
          (whileE (spec_l26Of_l15 list (([] : List Int) ++ ([4] : List Int)) (list.getD i.toNat default)) (IntKind.i64.wrap (i - 1))).bind fun y_121 =>
          some y_121
        else
          (whileE (spec_l26Of_l16 list ([] : List Int) (list.getD i.toNat default)) (IntKind.i64.wrap (i - 1))).bind fun y_126 =>
          some y_126

noncomputable def spec_AuditEstimates_l2 (list : List Estimate) (stars : List Star) (observers : List Observer) (margin : Int) (i : Int) (kinds : List Int) : ((List Fault) × Int) → Option (((List Fault) × Int) ⊕ (List Fault))
  | (out, k) =>
    if (decide (k < (kinds.length : Int))) then
      ck (ixOk k kinds.length) <|
      ck (appOk (out.length + ([(Fault.mk i (kinds.getD k.toNat default))] : List Fault).length) 16) <|
      some (.inl ((out ++ ([(Fault.mk i (kinds.getD k.toNat default))] : List Fault)), (IntKind.i64.wrap (k + 1))))
    else
      some (.inr out)

noncomputable def spec_AuditEstimates_l1 (list : List Estimate) (stars : List Star) (observers : List Observer) (margin : Int) : ((List Fault) × Int) → Option (((List Fault) × Int) ⊕ (List Fault))
  | (out, i) =>
    if (decide (i < (list.length : Int))) then
      (spec_l26Of list i stars observers margin).bind fun y_8 =>
      (whileE (spec_AuditEstimates_l2 list stars observers margin i y_8) (out, 0)).bind fun y_12 =>
      some (.inl (y_12, (IntKind.i64.wrap (i + 1))))
    else
      some (.inr out)

/-- spec.AuditEstimates -/
noncomputable def spec_AuditEstimates (list : List Estimate) (stars : List Star) (observers : List Observer) (margin : Int) : Option ((List Fault) × Int) :=
  (spec_l06Ok list).bind fun y_1 =>
  ck (!(!(!y_1)) || (spec_l04Ok stars).isSome) <|
  ck (!(!((!y_1) || (!((spec_l04Ok stars).getD default)))) || (spec_l05Ok observers).isSome) <|
  if (((!y_1) || (!((spec_l04Ok stars).getD default))) || (!((spec_l05Ok observers).getD default))) then
    some (([] : List Fault), 1)
  else
    (spec_l00In margin 0 20000).bind fun y_5 =>
    if (!y_5) then
      some (([] : List Fault), 2)
    else
      (whileE (spec_AuditEstimates_l1 list stars observers margin) (([] : List Fault), 0)).bind fun y_13 =>
      some (y_13, 0)

/-- impl.in -/
noncomputable def impl_in (n : Int) (low : Int) (high : Int) : Option Bool :=
  some ((decide (low ≤ n)) && (decide (n ≤ high)))

/-- impl.ValidTime -/
noncomputable def impl_ValidTime (t : Int) : Option Bool :=
  (impl_in t 0 10000000).bind fun y_1 =>
  some y_1

noncomputable def impl_IsName_l1 (s_ : List UInt8) (t15 : Int) : Int → Option (Int ⊕ (Unit ⊕ Bool))
  | t16 =>
    if (decide (t16 < t15)) then
      ck (ixOk t16 s_.length) <|
      if ((!((decide (97 ≤ ((s_.getD t16.toNat 0).toNat : Int))) && (decide (((s_.getD t16.toNat 0).toNat : Int) ≤ 122)))) && ((t16 == 0) || (!(((decide (48 ≤ ((s_.getD t16.toNat 0).toNat : Int))) && (decide (((s_.getD t16.toNat 0).toNat : Int) ≤ 57))) || (((s_.getD t16.toNat 0).toNat : Int) == 45))))) then
        some (.inr (.inr false))
      else
        some (.inl (IntKind.i64.wrap (t16 + 1)))
    else
      some (.inr (.inl ()))

/-- impl.IsName -/
noncomputable def impl_IsName (s_ : List UInt8) : Option Bool :=
  if ((decide ((s_.length : Int) < 1)) || (decide (12 < (s_.length : Int)))) then
    some false
  else
    (whileE (impl_IsName_l1 s_ (s_.length : Int)) 0).bind fun y_5 =>
    match y_5 with
    | .inl y_5a =>
      some true
    | .inr y_5b =>
      some y_5b

/-- impl.ValidMag -/
noncomputable def impl_ValidMag (m : Int) : Option Bool :=
  (impl_in m (-2000) 20000).bind fun y_1 =>
  some y_1

/-- impl.isEstimate -/
noncomputable def impl_isEstimate (e_ : Estimate) : Option Bool :=
  (impl_ValidTime e_.Time).bind fun y_1 =>
  ck (!y_1 || (impl_IsName e_.Star).isSome) <|
  ck (!(y_1 && ((impl_IsName e_.Star).getD default)) || (impl_IsName e_.Observer).isSome) <|
  ck (!((y_1 && ((impl_IsName e_.Star).getD default)) && ((impl_IsName e_.Observer).getD default)) || (impl_ValidMag e_.Mag).isSome) <|
  some (((y_1 && ((impl_IsName e_.Star).getD default)) && ((impl_IsName e_.Observer).getD default)) && ((impl_ValidMag e_.Mag).getD default))

/-- cmp.isNaN[int64] -/
noncomputable def cmp_isNaN_int64 (x : Int) : Option Bool :=
  some (!(x == x))

/-- cmp.Compare[int64] -/
noncomputable def cmp_Compare_int64 (x : Int) (y : Int) : Option Int :=
  (cmp_isNaN_int64 x).bind fun y_1 =>
  (cmp_isNaN_int64 y).bind fun y_2 =>
  if y_1 then
    if y_2 then
      some 0
    else
      some (-1)
  else
    if y_2 then
      some 1
    else
      if (decide (x < y)) then
        some (-1)
      else
        if (decide (y < x)) then
          some 1
        else
          some 0


/-- internal/bytealg.CompareString -/
noncomputable def internal_bytealg_CompareString (a : List UInt8) (b : List UInt8) : Option Int :=
  (hCmp a b).bind fun y_1 =>
  some y_1

/-- strings.Compare -/
noncomputable def strings_Compare (a : List UInt8) (b : List UInt8) : Option Int :=
  (internal_bytealg_CompareString a b).bind fun y_1 =>
  some y_1

noncomputable def cmp_Or_int_l1 (zero : Int) (t6 : List Int) (t7 : Int) : Int → Option (Int ⊕ (Unit ⊕ Int))
  | t8 =>
    if (decide (t8 < t7)) then
      ck (ixOk t8 t6.length) <|
      if (!((t6.getD t8.toNat default) == zero)) then
        some (.inr (.inr (t6.getD t8.toNat default)))
      else
        some (.inl (IntKind.i64.wrap (t8 + 1)))
    else
      some (.inr (.inl ()))

/-- cmp.Or[int] -/
noncomputable def cmp_Or_int (vals : List Int) : Option Int :=
  (whileE (cmp_Or_int_l1 0 vals (vals.length : Int)) 0).bind fun y_4 =>
  match y_4 with
  | .inl y_4a =>
    some 0
  | .inr y_4b =>
    some y_4b

/-- impl.compareEstimates -/
noncomputable def impl_compareEstimates (a : Estimate) (b : Estimate) : Option Int :=
  (cmp_Compare_int64 a.Time b.Time).bind fun y_1 =>
  (strings_Compare a.Star b.Star).bind fun y_2 =>
  (strings_Compare a.Observer b.Observer).bind fun y_3 =>
  (cmp_Or_int ([y_1, y_2, y_3] : List Int)).bind fun y_4 =>
  some y_4

noncomputable def impl_ValidEstimates_l1 (list : List Estimate) (t8 : List Estimate) (t9 : Int) : Int → Option (Int ⊕ (Unit ⊕ Bool))
  | t10 =>
    if (decide (t10 < t9)) then
      ck (ixOk t10 t8.length) <|
      (impl_isEstimate (t8.getD t10.toNat default)).bind fun y_4 =>
      ck (!((!(!y_4)) && (decide (0 < t10))) || ixOk (IntKind.i64.wrap (t10 - 1)) list.length) <|
      ck (!((!(!y_4)) && (decide (0 < t10))) || (impl_compareEstimates (list.getD (IntKind.i64.wrap (t10 - 1)).toNat default) (t8.getD t10.toNat default)).isSome) <|
      if ((!y_4) || ((decide (0 < t10)) && (decide (0 ≤ ((impl_compareEstimates (list.getD (IntKind.i64.wrap (t10 - 1)).toNat default) (t8.getD t10.toNat default)).getD default))))) then
        some (.inr (.inr false))
      else
        some (.inl (IntKind.i64.wrap (t10 + 1)))
    else
      some (.inr (.inl ()))

/-- impl.ValidEstimates -/
noncomputable def impl_ValidEstimates (list : List Estimate) : Option Bool :=
  if (decide (100 < (list.length : Int))) then
    some false
  else
    (whileE (impl_ValidEstimates_l1 list list (list.length : Int)) 0).bind fun y_8 =>
    match y_8 with
    | .inl y_8a =>
      some true
    | .inr y_8b =>
      some y_8b

/-- impl.isStar -/
noncomputable def impl_isStar (x : Star) : Option Bool :=
  (impl_in x.Ascend 0 86399).bind fun y_1 =>
  ck (!y_1 || (impl_in x.Decl (-324000) 324000).isSome) <|
  (impl_IsName x.Name).bind fun y_3 =>
  ck (!(y_3 && (y_1 && ((impl_in x.Decl (-324000) 324000).getD default))) || (impl_ValidMag x.Bright).isSome) <|
  ck (!((y_3 && (y_1 && ((impl_in x.Decl (-324000) 324000).getD default))) && ((impl_ValidMag x.Bright).getD default)) || (impl_ValidMag x.Faint).isSome) <|
  some ((((y_3 && (y_1 && ((impl_in x.Decl (-324000) 324000).getD default))) && ((impl_ValidMag x.Bright).getD default)) && ((impl_ValidMag x.Faint).getD default)) && (decide (x.Bright ≤ x.Faint)))

/-- impl.starName -/
noncomputable def impl_starName (x : Star) : Option (List UInt8) :=
  some x.Name

noncomputable def impl_rising_impl_Star__impl_isStar__impl_starName_l1 (list : List Star) (t15 : List Star) (t16 : Int) : Int → Option (Int ⊕ (Unit ⊕ Bool))
  | t17 =>
    if (decide (t17 < t16)) then
      ck (ixOk t17 t15.length) <|
      (impl_isStar (t15.getD t17.toNat default)).bind fun y_4 =>
      ck (!((!(!y_4)) && (decide (0 < t17))) || ixOk (IntKind.i64.wrap (t17 - 1)) list.length) <|
      ck (!((!(!y_4)) && (decide (0 < t17))) || (impl_starName (list.getD (IntKind.i64.wrap (t17 - 1)).toNat default)).isSome) <|
      ck (!((!(!y_4)) && (decide (0 < t17))) || (impl_starName (t15.getD t17.toNat default)).isSome) <|
      if ((!y_4) || ((decide (0 < t17)) && (!(Op.bytesLess ((impl_starName (list.getD (IntKind.i64.wrap (t17 - 1)).toNat default)).getD default) ((impl_starName (t15.getD t17.toNat default)).getD default))))) then
        some (.inr (.inr false))
      else
        some (.inl (IntKind.i64.wrap (t17 + 1)))
    else
      some (.inr (.inl ()))

/-- impl.rising[impl.Star] -/
noncomputable def impl_rising_impl_Star__impl_isStar__impl_starName (list : List Star) (most : Int) : Option Bool :=
  if (decide (most < (list.length : Int))) then
    some false
  else
    (whileE (impl_rising_impl_Star__impl_isStar__impl_starName_l1 list list (list.length : Int)) 0).bind fun y_9 =>
    match y_9 with
    | .inl y_9a =>
      some true
    | .inr y_9b =>
      some y_9b

/-- impl.ValidStars -/
noncomputable def impl_ValidStars (list : List Star) : Option Bool :=
  (impl_rising_impl_Star__impl_isStar__impl_starName list 60).bind fun y_1 =>
  some y_1

/-- impl.isObserver -/
noncomputable def impl_isObserver (x : Observer) : Option Bool :=
  (impl_IsName x.Name).bind fun y_1 =>
  ck (!y_1 || (impl_in x.Shift (-2000) 2000).isSome) <|
  some (y_1 && ((impl_in x.Shift (-2000) 2000).getD default))

/-- impl.observerName -/
noncomputable def impl_observerName (x : Observer) : Option (List UInt8) :=
  some x.Name

noncomputable def impl_rising_impl_Observer__impl_isObserver__impl_observerName_l1 (list : List Observer) (t15 : List Observer) (t16 : Int) : Int → Option (Int ⊕ (Unit ⊕ Bool))
  | t17 =>
    if (decide (t17 < t16)) then
      ck (ixOk t17 t15.length) <|
      (impl_isObserver (t15.getD t17.toNat default)).bind fun y_4 =>
      ck (!((!(!y_4)) && (decide (0 < t17))) || ixOk (IntKind.i64.wrap (t17 - 1)) list.length) <|
      ck (!((!(!y_4)) && (decide (0 < t17))) || (impl_observerName (list.getD (IntKind.i64.wrap (t17 - 1)).toNat default)).isSome) <|
      ck (!((!(!y_4)) && (decide (0 < t17))) || (impl_observerName (t15.getD t17.toNat default)).isSome) <|
      if ((!y_4) || ((decide (0 < t17)) && (!(Op.bytesLess ((impl_observerName (list.getD (IntKind.i64.wrap (t17 - 1)).toNat default)).getD default) ((impl_observerName (t15.getD t17.toNat default)).getD default))))) then
        some (.inr (.inr false))
      else
        some (.inl (IntKind.i64.wrap (t17 + 1)))
    else
      some (.inr (.inl ()))

/-- impl.rising[impl.Observer] -/
noncomputable def impl_rising_impl_Observer__impl_isObserver__impl_observerName (list : List Observer) (most : Int) : Option Bool :=
  if (decide (most < (list.length : Int))) then
    some false
  else
    (whileE (impl_rising_impl_Observer__impl_isObserver__impl_observerName_l1 list list (list.length : Int)) 0).bind fun y_9 =>
    match y_9 with
    | .inl y_9a =>
      some true
    | .inr y_9b =>
      some y_9b

/-- impl.ValidObservers -/
noncomputable def impl_ValidObservers (list : List Observer) : Option Bool :=
  (impl_rising_impl_Observer__impl_isObserver__impl_observerName list 40).bind fun y_1 =>
  some y_1

/-- impl.kindsOf$2 -/
noncomputable def impl_kindsOf_c2 (x : Star) (t1 : Estimate) : Option Bool :=
  some (x.Name == t1.Star)

noncomputable def slices_IndexFunc_impl_Star_impl_Star__impl_kindsOf_c2_l1 (s_ : List Star) (c : Estimate) (t7 : Int) : Int → Option (Int ⊕ (Unit ⊕ Int))
  | t8 =>
    if (decide (t8 < t7)) then
      ck (ixOk t8 s_.length) <|
      (impl_kindsOf_c2 (s_.getD t8.toNat default) c).bind fun y_3 =>
      if y_3 then
        some (.inr (.inr t8))
      else
        some (.inl (IntKind.i64.wrap (t8 + 1)))
    else
      some (.inr (.inl ()))

/-- slices.IndexFunc[[]impl.Star,impl.Star] -/
noncomputable def slices_IndexFunc_impl_Star_impl_Star__impl_kindsOf_c2 (s_ : List Star) (f_c0 : Estimate) : Option Int :=
  (whileE (slices_IndexFunc_impl_Star_impl_Star__impl_kindsOf_c2_l1 s_ f_c0 (s_.length : Int)) 0).bind fun y_5 =>
  match y_5 with
  | .inl y_5a =>
    some (-1)
  | .inr y_5b =>
    some y_5b

/-- impl.indexOf[impl.Star] -/
noncomputable def impl_indexOf_impl_Star__impl_kindsOf_c2 (list : List Star) (wanted_c0 : Estimate) : Option (Int × Int) :=
  (slices_IndexFunc_impl_Star_impl_Star__impl_kindsOf_c2 list wanted_c0).bind fun y_1 =>
  if (decide (0 ≤ y_1)) then
    some (y_1, 0)
  else
    some (0, 3)

/-- impl.findObserver$1 -/
noncomputable def impl_findObserver_c1 (x : Observer) (t1 : List UInt8) : Option Bool :=
  some (x.Name == t1)

noncomputable def slices_IndexFunc_impl_Observer_impl_Observer__impl_findObserver_c1_l1 (s_ : List Observer) (c : List UInt8) (t7 : Int) : Int → Option (Int ⊕ (Unit ⊕ Int))
  | t8 =>
    if (decide (t8 < t7)) then
      ck (ixOk t8 s_.length) <|
      (impl_findObserver_c1 (s_.getD t8.toNat default) c).bind fun y_3 =>
      if y_3 then
        some (.inr (.inr t8))
      else
        some (.inl (IntKind.i64.wrap (t8 + 1)))
    else
      some (.inr (.inl ()))

/-- slices.IndexFunc[[]impl.Observer,impl.Observer] -/
noncomputable def slices_IndexFunc_impl_Observer_impl_Observer__impl_findObserver_c1 (s_ : List Observer) (f_c0 : List UInt8) : Option Int :=
  (whileE (slices_IndexFunc_impl_Observer_impl_Observer__impl_findObserver_c1_l1 s_ f_c0 (s_.length : Int)) 0).bind fun y_5 =>
  match y_5 with
  | .inl y_5a =>
    some (-1)
  | .inr y_5b =>
    some y_5b

/-- impl.indexOf[impl.Observer] -/
noncomputable def impl_indexOf_impl_Observer__impl_findObserver_c1 (list : List Observer) (wanted_c0 : List UInt8) : Option (Int × Int) :=
  (slices_IndexFunc_impl_Observer_impl_Observer__impl_findObserver_c1 list wanted_c0).bind fun y_1 =>
  if (decide (0 ≤ y_1)) then
    some (y_1, 0)
  else
    some (0, 3)

/-- impl.findObserver -/
noncomputable def impl_findObserver (list : List Observer) (name : List UInt8) : Option (Int × Int) :=
  (impl_indexOf_impl_Observer__impl_findObserver_c1 list name).bind fun y_1 =>
  some (y_1.1, y_1.2)

/-- impl.kindsOf$3 -/
noncomputable def impl_kindsOf_c3 (x : Estimate) (t1 : Estimate) : Option Bool :=
  some (((x.Star == t1.Star) && (x.Observer == t1.Observer)) && (decide ((IntKind.i64.wrap (t1.Time - x.Time)) < 100)))

noncomputable def slices_IndexFunc_impl_Estimate_impl_Estimate__impl_kindsOf_c3_l1 (s_ : List Estimate) (c : Estimate) (t7 : Int) : Int → Option (Int ⊕ (Unit ⊕ Int))
  | t8 =>
    if (decide (t8 < t7)) then
      ck (ixOk t8 s_.length) <|
      (impl_kindsOf_c3 (s_.getD t8.toNat default) c).bind fun y_3 =>
      if y_3 then
        some (.inr (.inr t8))
      else
        some (.inl (IntKind.i64.wrap (t8 + 1)))
    else
      some (.inr (.inl ()))

/-- slices.IndexFunc[[]impl.Estimate,impl.Estimate] -/
noncomputable def slices_IndexFunc_impl_Estimate_impl_Estimate__impl_kindsOf_c3 (s_ : List Estimate) (f_c0 : Estimate) : Option Int :=
  (whileE (slices_IndexFunc_impl_Estimate_impl_Estimate__impl_kindsOf_c3_l1 s_ f_c0 (s_.length : Int)) 0).bind fun y_5 =>
  match y_5 with
  | .inl y_5a =>
    some (-1)
  | .inr y_5b =>
    some y_5b

/-- slices.ContainsFunc[[]impl.Estimate,impl.Estimate] -/
noncomputable def slices_ContainsFunc_impl_Estimate_impl_Estimate__impl_kindsOf_c3 (s_ : List Estimate) (f_c0 : Estimate) : Option Bool :=
  (slices_IndexFunc_impl_Estimate_impl_Estimate__impl_kindsOf_c3 s_ f_c0).bind fun y_1 =>
  some (decide (0 ≤ y_1))

def kd (k : Int) (b : Bool) : List Int := if b = true then [k] else []
/-- impl.kindsOf, by hand -/
noncomputable def impl_kindsOf (list : List Estimate) (i : Int) (stars : List Star) (observers : List Observer) (margin : Int) : Option (List Int) :=
  ck (ixOk i list.length) <|
  (impl_indexOf_impl_Star__impl_kindsOf_c2 stars (list.getD i.toNat default)).bind fun y =>
  (impl_findObserver observers (list.getD i.toNat default).Observer).bind fun z =>
  ck (!(y.2 == 0) || ixOk y.1 stars.length) <|
  ck (cutOk 0 i list.length) <|
  (slices_ContainsFunc_impl_Estimate_impl_Estimate__impl_kindsOf_c3 (cut list 0 i) (list.getD i.toNat default)).bind fun t =>
  some (kd 1 (!(y.2 == 0)) ++ kd 2 (!(z.2 == 0)) ++
    (if y.2 == 0 then kd 3 (decide ((list.getD i.toNat default).Mag < IntKind.i64.wrap ((stars.getD y.1.toNat default).Bright - margin))) ++
      kd 4 (!(list.getD i.toNat default).Fainter && decide (IntKind.i64.wrap ((stars.getD y.1.toNat default).Faint + margin) < (list.getD i.toNat default).Mag)) else []) ++ kd 5 t)

noncomputable def impl_AuditEstimates_l2 (list : List Estimate) (stars : List Star) (observers : List Observer) (margin : Int) (i : Int) (t34 : Int) (t35 : Int) (t43 : List Int) (t44 : Int) : ((List Fault) × Int) → Option (((List Fault) × Int) ⊕ (List Fault))
  | (out, t45) =>
    if (decide (t45 < t44)) then
      ck (ixOk t45 t43.length) <|
      ck (appOk (out.length + ([(Fault.mk i (t43.getD t45.toNat default))] : List Fault).length) 16) <|
      some (.inl ((out ++ ([(Fault.mk i (t43.getD t45.toNat default))] : List Fault)), (IntKind.i64.wrap (t45 + 1))))
    else
      some (.inr out)

noncomputable def impl_AuditEstimates_l1 (list : List Estimate) (stars : List Star) (observers : List Observer) (margin : Int) (t34 : Int) : ((List Fault) × Int) → Option (((List Fault) × Int) ⊕ (List Fault))
  | (out, t35) =>
    if (decide (t35 < t34)) then
      (impl_kindsOf list t35 stars observers margin).bind fun y_8 =>
      (whileE (impl_AuditEstimates_l2 list stars observers margin t35 t34 t35 y_8 (y_8.length : Int)) (out, 0)).bind fun y_12 =>
      some (.inl (y_12, (IntKind.i64.wrap (t35 + 1))))
    else
      some (.inr out)

/-- impl.AuditEstimates -/
noncomputable def impl_AuditEstimates (list : List Estimate) (stars : List Star) (observers : List Observer) (margin : Int) : Option ((List Fault) × Int) :=
  (impl_ValidEstimates list).bind fun y_1 =>
  ck (!(!(!y_1)) || (impl_ValidStars stars).isSome) <|
  ck (!(!((!y_1) || (!((impl_ValidStars stars).getD default)))) || (impl_ValidObservers observers).isSome) <|
  if (((!y_1) || (!((impl_ValidStars stars).getD default))) || (!((impl_ValidObservers observers).getD default))) then
    some (([] : List Fault), 1)
  else
    (impl_in margin 0 20000).bind fun y_5 =>
    if (!y_5) then
      some (([] : List Fault), 2)
    else
      (whileE (impl_AuditEstimates_l1 list stars observers margin (list.length : Int)) (([] : List Fault), 0)).bind fun y_13 =>
      some (y_13, 0)

/-- laws.eqFault -/
noncomputable def laws_eqFault (a : Fault) (b : Fault) : Option Bool :=
  if (!(a.Index == b.Index)) then
    some false
  else
    if (!(a.Kind == b.Kind)) then
      some false
    else
      some true

noncomputable def laws_eqFaultS_l1 (a : List Fault) (b : List Fault) : Int → Option (Int ⊕ (Unit ⊕ Bool))
  | i =>
    if (decide (i < (a.length : Int))) then
      ck (ixOk i a.length) <|
      ck (ixOk i b.length) <|
      (laws_eqFault (a.getD i.toNat default) (b.getD i.toNat default)).bind fun y_5 =>
      if (!y_5) then
        some (.inr (.inr false))
      else
        some (.inl (IntKind.i64.wrap (i + 1)))
    else
      some (.inr (.inl ()))

/-- laws.eqFaultS -/
noncomputable def laws_eqFaultS (a : List Fault) (b : List Fault) : Option Bool :=
  if (!((a.length : Int) == (b.length : Int))) then
    some false
  else
    (whileE (laws_eqFaultS_l1 a b) 0).bind fun y_7 =>
    match y_7 with
    | .inl y_7a =>
      some true
    | .inr y_7b =>
      some y_7b

/-- laws.eqEstimate -/
noncomputable def laws_eqEstimate (a : Estimate) (b : Estimate) : Option Bool :=
  if (!(a.Time == b.Time)) then
    some false
  else
    if (!(a.Star == b.Star)) then
      some false
    else
      if (!(a.Observer == b.Observer)) then
        some false
      else
        if (!(a.Mag == b.Mag)) then
          some false
        else
          if (!(a.Fainter == b.Fainter)) then
            some false
          else
            some true

noncomputable def laws_eqEstimateS_l1 (a : List Estimate) (b : List Estimate) : Int → Option (Int ⊕ (Unit ⊕ Bool))
  | i =>
    if (decide (i < (a.length : Int))) then
      ck (ixOk i a.length) <|
      ck (ixOk i b.length) <|
      (laws_eqEstimate (a.getD i.toNat default) (b.getD i.toNat default)).bind fun y_5 =>
      if (!y_5) then
        some (.inr (.inr false))
      else
        some (.inl (IntKind.i64.wrap (i + 1)))
    else
      some (.inr (.inl ()))

/-- laws.eqEstimateS -/
noncomputable def laws_eqEstimateS (a : List Estimate) (b : List Estimate) : Option Bool :=
  if (!((a.length : Int) == (b.length : Int))) then
    some false
  else
    (whileE (laws_eqEstimateS_l1 a b) 0).bind fun y_7 =>
    match y_7 with
    | .inl y_7a =>
      some true
    | .inr y_7b =>
      some y_7b

/-- laws.eqStar -/
noncomputable def laws_eqStar (a : Star) (b : Star) : Option Bool :=
  if (!(a.Name == b.Name)) then
    some false
  else
    if (!(a.Ascend == b.Ascend)) then
      some false
    else
      if (!(a.Decl == b.Decl)) then
        some false
      else
        if (!(a.Bright == b.Bright)) then
          some false
        else
          if (!(a.Faint == b.Faint)) then
            some false
          else
            some true

noncomputable def laws_eqStarS_l1 (a : List Star) (b : List Star) : Int → Option (Int ⊕ (Unit ⊕ Bool))
  | i =>
    if (decide (i < (a.length : Int))) then
      ck (ixOk i a.length) <|
      ck (ixOk i b.length) <|
      (laws_eqStar (a.getD i.toNat default) (b.getD i.toNat default)).bind fun y_5 =>
      if (!y_5) then
        some (.inr (.inr false))
      else
        some (.inl (IntKind.i64.wrap (i + 1)))
    else
      some (.inr (.inl ()))

/-- laws.eqStarS -/
noncomputable def laws_eqStarS (a : List Star) (b : List Star) : Option Bool :=
  if (!((a.length : Int) == (b.length : Int))) then
    some false
  else
    (whileE (laws_eqStarS_l1 a b) 0).bind fun y_7 =>
    match y_7 with
    | .inl y_7a =>
      some true
    | .inr y_7b =>
      some y_7b

/-- laws.eqObserver -/
noncomputable def laws_eqObserver (a : Observer) (b : Observer) : Option Bool :=
  if (!(a.Name == b.Name)) then
    some false
  else
    if (!(a.Shift == b.Shift)) then
      some false
    else
      some true

noncomputable def laws_eqObserverS_l1 (a : List Observer) (b : List Observer) : Int → Option (Int ⊕ (Unit ⊕ Bool))
  | i =>
    if (decide (i < (a.length : Int))) then
      ck (ixOk i a.length) <|
      ck (ixOk i b.length) <|
      (laws_eqObserver (a.getD i.toNat default) (b.getD i.toNat default)).bind fun y_5 =>
      if (!y_5) then
        some (.inr (.inr false))
      else
        some (.inl (IntKind.i64.wrap (i + 1)))
    else
      some (.inr (.inl ()))

/-- laws.eqObserverS -/
noncomputable def laws_eqObserverS (a : List Observer) (b : List Observer) : Option Bool :=
  if (!((a.length : Int) == (b.length : Int))) then
    some false
  else
    (whileE (laws_eqObserverS_l1 a b) 0).bind fun y_7 =>
    match y_7 with
    | .inl y_7a =>
      some true
    | .inr y_7b =>
      some y_7b

noncomputable def laws_markText_l1  : (Int × (List UInt8)) → Option ((Int × (List UInt8)) ⊕ (List UInt8))
  | (k, out) =>
    if (decide (0 < k)) then
      ck (nz 10) <|
      ck (catOk ([(toU8 (IntKind.u8.wrap (IntKind.i64.wrap (48 + (k.tmod 10)))))] : List UInt8).length out.length) <|
      some (.inl ((IntKind.i64.wrap (k.tdiv 10)), (([(toU8 (IntKind.u8.wrap (IntKind.i64.wrap (48 + (k.tmod 10)))))] : List UInt8) ++ out)))
    else
      some (.inr out)

/-- laws.markText -/
noncomputable def laws_markText (k : Int) : Option (List UInt8) :=
  if (decide (k ≤ 0)) then
    some ([109, 48] : List UInt8)
  else
    (whileE (laws_markText_l1) (k, ([] : List UInt8))).bind fun y_5 =>
    ck (catOk ([109] : List UInt8).length y_5.length) <|
    some (([109] : List UInt8) ++ y_5)

noncomputable def laws_markEstimateS_l1  : ((List Estimate) × Int × Int) → Option (((List Estimate) × Int × Int) ⊕ ((List Estimate) × Int))
  | (a, k, i) =>
    if (decide (i < (a.length : Int))) then
      ck (ixOk i a.length) <|
      (laws_markText (IntKind.i64.wrap (k + 1))).bind fun y_3 =>
      (laws_markText (IntKind.i64.wrap ((IntKind.i64.wrap (k + 1)) + 1))).bind fun y_4 =>
      ck (nz 3) <|
      some (.inl ((a.set i.toNat (Estimate.mk k y_3 y_4 (IntKind.i64.wrap ((IntKind.i64.wrap ((IntKind.i64.wrap (k + 1)) + 1)) + 1)) (((IntKind.i64.wrap ((IntKind.i64.wrap ((IntKind.i64.wrap ((IntKind.i64.wrap (k + 1)) + 1)) + 1)) + 1)).tmod 3) == 0))), (IntKind.i64.wrap ((IntKind.i64.wrap ((IntKind.i64.wrap ((IntKind.i64.wrap ((IntKind.i64.wrap (k + 1)) + 1)) + 1)) + 1)) + 1)), (IntKind.i64.wrap (i + 1))))
    else
      some (.inr (a, k))

/-- laws.markEstimateS -/
noncomputable def laws_markEstimateS (a : List Estimate) (k : Int) : Option (Int × (List Estimate)) :=
  (whileE (laws_markEstimateS_l1) (a, k, 0)).bind fun y_6 =>
  ck (y_6.1.length == a.length) <|
  some (y_6.2, y_6.1)

noncomputable def laws_markStarS_l1  : ((List Star) × Int × Int) → Option (((List Star) × Int × Int) ⊕ ((List Star) × Int))
  | (a, k, i) =>
    if (decide (i < (a.length : Int))) then
      (laws_markText k).bind fun y_2 =>
      ck (ixOk i a.length) <|
      some (.inl ((a.set i.toNat (Star.mk y_2 (IntKind.i64.wrap (k + 1)) (IntKind.i64.wrap ((IntKind.i64.wrap (k + 1)) + 1)) (IntKind.i64.wrap ((IntKind.i64.wrap ((IntKind.i64.wrap (k + 1)) + 1)) + 1)) (IntKind.i64.wrap ((IntKind.i64.wrap ((IntKind.i64.wrap ((IntKind.i64.wrap (k + 1)) + 1)) + 1)) + 1)))), (IntKind.i64.wrap ((IntKind.i64.wrap ((IntKind.i64.wrap ((IntKind.i64.wrap ((IntKind.i64.wrap (k + 1)) + 1)) + 1)) + 1)) + 1)), (IntKind.i64.wrap (i + 1))))
    else
      some (.inr (a, k))

/-- laws.markStarS -/
noncomputable def laws_markStarS (a : List Star) (k : Int) : Option (Int × (List Star)) :=
  (whileE (laws_markStarS_l1) (a, k, 0)).bind fun y_4 =>
  ck (y_4.1.length == a.length) <|
  some (y_4.2, y_4.1)

noncomputable def laws_markObserverS_l1  : ((List Observer) × Int × Int) → Option (((List Observer) × Int × Int) ⊕ ((List Observer) × Int))
  | (a, k, i) =>
    if (decide (i < (a.length : Int))) then
      (laws_markText k).bind fun y_2 =>
      ck (ixOk i a.length) <|
      some (.inl ((a.set i.toNat (Observer.mk y_2 (IntKind.i64.wrap (k + 1)))), (IntKind.i64.wrap ((IntKind.i64.wrap (k + 1)) + 1)), (IntKind.i64.wrap (i + 1))))
    else
      some (.inr (a, k))

/-- laws.markObserverS -/
noncomputable def laws_markObserverS (a : List Observer) (k : Int) : Option (Int × (List Observer)) :=
  (whileE (laws_markObserverS_l1) (a, k, 0)).bind fun y_4 =>
  ck (y_4.1.length == a.length) <|
  some (y_4.2, y_4.1)

noncomputable def laws_markFaultS_l1  : ((List Fault) × Int × Int) → Option (((List Fault) × Int × Int) ⊕ ((List Fault) × Int))
  | (a, k, i) =>
    if (decide (i < (a.length : Int))) then
      ck (ixOk i a.length) <|
      some (.inl ((a.set i.toNat (Fault.mk k (IntKind.i64.wrap (k + 1)))), (IntKind.i64.wrap ((IntKind.i64.wrap (k + 1)) + 1)), (IntKind.i64.wrap (i + 1))))
    else
      some (.inr (a, k))

/-- laws.markFaultS -/
noncomputable def laws_markFaultS (a : List Fault) (k : Int) : Option (Int × (List Fault)) :=
  (whileE (laws_markFaultS_l1) (a, k, 0)).bind fun y_3 =>
  ck (y_3.1.length == a.length) <|
  some (y_3.2, y_3.1)

noncomputable def laws_heldFaultS_l1 (a : List Fault) : (Int × Int) → Option ((Int × Int) ⊕ (Int ⊕ Int))
  | (k, i) =>
    if (decide (i < (a.length : Int))) then
      ck (ixOk i a.length) <|
      if (!(((a.getD i.toNat default).Index) == k)) then
        some (.inr (.inr (-1)))
      else
        if (!(((a.getD i.toNat default).Kind) == (IntKind.i64.wrap (k + 1)))) then
          some (.inr (.inr (-1)))
        else
          some (.inl ((IntKind.i64.wrap ((IntKind.i64.wrap (k + 1)) + 1)), (IntKind.i64.wrap (i + 1))))
    else
      some (.inr (.inl k))

/-- laws.heldFaultS -/
noncomputable def laws_heldFaultS (a : List Fault) (k : Int) : Option Int :=
  (whileE (laws_heldFaultS_l1 a) (k, 0)).bind fun y_5 =>
  match y_5 with
  | .inl y_5a =>
    some y_5a
  | .inr y_5b =>
    some y_5b

/-- laws.FnExactAuditEstimates -/
noncomputable def laws_FnExactAuditEstimates (aList : List Estimate) (aStars : List Star) (aObservers : List Observer) (aMargin : Int) : Option Bool :=
  (laws_szEstimateS aList 1048576).bind fun y_1 =>
  if (decide (y_1 < 0)) then
    some true
  else
    (laws_szStarS aStars y_1).bind fun y_3 =>
    if (decide (y_3 < 0)) then
      some true
    else
      (laws_szObserverS aObservers y_3).bind fun y_5 =>
      if (decide (y_5 < 0)) then
        some true
      else
        (laws_toEstimateS aList).bind fun y_7 =>
        (laws_toStarS aStars).bind fun y_8 =>
        (laws_toObserverS aObservers).bind fun y_9 =>
        (spec_AuditEstimates y_7 y_8 y_9 aMargin).bind fun y_10 =>
        (impl_AuditEstimates y_7 y_8 y_9 aMargin).bind fun y_11 =>
        (laws_eqFaultS y_11.1 y_10.1).bind fun y_12 =>
        if ((!y_12) || (!(y_11.2 == y_10.2))) then
          some false
        else
          (laws_eqEstimateS y_7 y_7).bind fun y_14 =>
          if (!y_14) then
            some false
          else
            (laws_eqStarS y_8 y_8).bind fun y_16 =>
            if (!y_16) then
              some false
            else
              (laws_eqObserverS y_9 y_9).bind fun y_18 =>
              if (!y_18) then
                some false
              else
                (laws_markEstimateS y_7 1).bind fun y_20 =>
                (laws_markStarS y_8 y_20.1).bind fun y_21 =>
                (laws_markObserverS y_9 y_21.1).bind fun y_22 =>
                if (((decide (y_22.1 < 0)) || (!y_12)) || (!(y_11.2 == y_10.2))) then
                  some false
                else
                  (laws_markFaultS y_11.1 1).bind fun y_25 =>
                  (laws_heldFaultS y_25.2 1).bind fun y_26 =>
                  if (decide (y_26 < 0)) then
                    some false
                  else
                    if (!(y_26 == y_25.1)) then
                      some false
                    else
                      some true

end Go.Proofs.Ythbnoddeifedkaa
