/- Typed forms of the functions that DT reaches. No condition. -/
import Derived.Test.YtbdghipedlldbaaGreatDoorEngSI
namespace Go.Proofs.YtbdghipedlldbaaGreatDoor
open Go Go.RowKit
set_option linter.unusedVariables false

structure Star where
  Name : List UInt8
  Ascend : Int
  Decl : Int
  Bright : Int
  Faint : Int
  deriving Inhabited, DecidableEq
def Star_av (x : Star) : AV := .agg ([.str x.Name, .int .i64 x.Ascend, .int .i64 x.Decl, .int .i64 x.Bright, .int .i64 x.Faint])

structure Estimate where
  Time : Int
  Star : List UInt8
  Observer : List UInt8
  Mag : Int
  Fainter : Bool
  deriving Inhabited, DecidableEq
def Estimate_av (x : Estimate) : AV := .agg ([.int .i64 x.Time, .str x.Star, .str x.Observer, .int .i64 x.Mag, .bool x.Fainter])

structure Desk where
  Stars : List Star
  Estimates : List Estimate
  Log : List UInt8
  deriving Inhabited, DecidableEq
def Desk_av (x : Desk) : AV := .agg ([.sl 5 (List.map Star_av x.Stars), .sl 5 (List.map Estimate_av x.Estimates), .str x.Log])

structure Entry where
  Day : Int
  What : List UInt8
  Value : Int
  deriving Inhabited, DecidableEq
def Entry_av (x : Entry) : AV := .agg ([.int .i64 x.Day, .str x.What, .int .i64 x.Value])

structure L27R where
  s_ : List UInt8
  at_ : Int
  stamp_ : Int
  list_ : List Entry
  deriving Inhabited, DecidableEq
def L27R_av (x : L27R) : AV := .agg ([.str x.s_, .int .i64 x.at_, .int .i64 x.stamp_, .sl 3 (List.map Entry_av x.list_)])

attribute [go_sem] Star_av Estimate_av Desk_av Entry_av L27R_av

/-- laws.toStar -/
noncomputable def laws_toStar (a : Star) : Option Star :=
  some a

noncomputable def laws_toStarS_l1 (a : List Star) : ((List Star) × Int) → Option (((List Star) × Int) ⊕ (List Star))
  | (out, i) =>
    if (decide (i < (a.length : Int))) then
      ck (ixOk i a.length) <|
      (laws_toStar (a.getD i.toNat default)).bind fun y_4 =>
      ck (ixOk i out.length) <|
      some (.inl ((out.set i.toNat y_4), (IntKind.i64.wrap (i + 1))))
    else
      some (.inr out)

/-- laws.toStarS -/
noncomputable def laws_toStarS (a : List Star) : Option (List Star) :=
  ck (mkOk (a.length : Int) 48) <|
  (whileE (laws_toStarS_l1 a) ((List.replicate (a.length : Int).toNat (Star.mk [] 0 0 0 0)), 0)).bind fun y_6 =>
  some y_6

/-- laws.toEstimate -/
noncomputable def laws_toEstimate (a : Estimate) : Option Estimate :=
  some a

noncomputable def laws_toEstimateS_l1 (a : List Estimate) : ((List Estimate) × Int) → Option (((List Estimate) × Int) ⊕ (List Estimate))
  | (out, i) =>
    if (decide (i < (a.length : Int))) then
      ck (ixOk i a.length) <|
      (laws_toEstimate (a.getD i.toNat default)).bind fun y_4 =>
      ck (ixOk i out.length) <|
      some (.inl ((out.set i.toNat y_4), (IntKind.i64.wrap (i + 1))))
    else
      some (.inr out)

/-- laws.toEstimateS -/
noncomputable def laws_toEstimateS (a : List Estimate) : Option (List Estimate) :=
  ck (mkOk (a.length : Int) 56) <|
  (whileE (laws_toEstimateS_l1 a) ((List.replicate (a.length : Int).toNat (Estimate.mk 0 [] [] 0 false)), 0)).bind fun y_6 =>
  some y_6

/-- laws.toDesk -/
noncomputable def laws_toDesk (a : Desk) : Option Desk :=
  (laws_toStarS a.Stars).bind fun y_1 =>
  (laws_toEstimateS a.Estimates).bind fun y_2 =>
  some (Desk.mk y_1 y_2 a.Log)

/-- laws.eqStar -/
noncomputable def laws_eqStar (a : Star) (b : Star) : Option Bool :=
  if (!(a.Name == b.Name)) then
    some false
  else
    if (!(a.Ascend == b.Ascend)) then
      some false
    else
      if (!(a.Decl == b.Decl)) then
        some false
      else
        if (!(a.Bright == b.Bright)) then
          some false
        else
          if (!(a.Faint == b.Faint)) then
            some false
          else
            some true

noncomputable def laws_eqStarS_l1 (a : List Star) (b : List Star) : Int → Option (Int ⊕ (Unit ⊕ Bool))
  | i =>
    if (decide (i < (a.length : Int))) then
      ck (ixOk i a.length) <|
      ck (ixOk i b.length) <|
      (laws_eqStar (a.getD i.toNat default) (b.getD i.toNat default)).bind fun y_5 =>
      if (!y_5) then
        some (.inr (.inr false))
      else
        some (.inl (IntKind.i64.wrap (i + 1)))
    else
      some (.inr (.inl ()))

/-- laws.eqStarS -/
noncomputable def laws_eqStarS (a : List Star) (b : List Star) : Option Bool :=
  if (!((a.length : Int) == (b.length : Int))) then
    some false
  else
    (whileE (laws_eqStarS_l1 a b) 0).bind fun y_7 =>
    match y_7 with
    | .inl y_7a =>
      some true
    | .inr y_7b =>
      some y_7b

/-- laws.eqEstimate -/
noncomputable def laws_eqEstimate (a : Estimate) (b : Estimate) : Option Bool :=
  if (!(a.Time == b.Time)) then
    some false
  else
    if (!(a.Star == b.Star)) then
      some false
    else
      if (!(a.Observer == b.Observer)) then
        some false
      else
        if (!(a.Mag == b.Mag)) then
          some false
        else
          if (!(a.Fainter == b.Fainter)) then
            some false
          else
            some true

noncomputable def laws_eqEstimateS_l1 (a : List Estimate) (b : List Estimate) : Int → Option (Int ⊕ (Unit ⊕ Bool))
  | i =>
    if (decide (i < (a.length : Int))) then
      ck (ixOk i a.length) <|
      ck (ixOk i b.length) <|
      (laws_eqEstimate (a.getD i.toNat default) (b.getD i.toNat default)).bind fun y_5 =>
      if (!y_5) then
        some (.inr (.inr false))
      else
        some (.inl (IntKind.i64.wrap (i + 1)))
    else
      some (.inr (.inl ()))

/-- laws.eqEstimateS -/
noncomputable def laws_eqEstimateS (a : List Estimate) (b : List Estimate) : Option Bool :=
  if (!((a.length : Int) == (b.length : Int))) then
    some false
  else
    (whileE (laws_eqEstimateS_l1 a b) 0).bind fun y_7 =>
    match y_7 with
    | .inl y_7a =>
      some true
    | .inr y_7b =>
      some y_7b

/-- laws.eqDesk -/
noncomputable def laws_eqDesk (a : Desk) (b : Desk) : Option Bool :=
  (laws_eqStarS a.Stars b.Stars).bind fun y_1 =>
  if (!y_1) then
    some false
  else
    (laws_eqEstimateS a.Estimates b.Estimates).bind fun y_3 =>
    if (!y_3) then
      some false
    else
      if (!(a.Log == b.Log)) then
        some false
      else
        some true

/-- laws.szStar -/
noncomputable def laws_szStar (a : Star) (left_ : Int) : Option Int :=
  if (decide ((IntKind.i64.wrap (left_ - (a.Name.length : Int))) < 0)) then
    some (-1)
  else
    some (IntKind.i64.wrap (left_ - (a.Name.length : Int)))

noncomputable def laws_szStarS_l1 (a : List Star) : (Int × Int) → Option ((Int × Int) ⊕ (Int ⊕ Int))
  | (left_, i) =>
    if (decide (i < (a.length : Int))) then
      ck (ixOk i a.length) <|
      (laws_szStar (a.getD i.toNat default) left_).bind fun y_4 =>
      if (decide (y_4 < 0)) then
        some (.inr (.inr (-1)))
      else
        some (.inl (y_4, (IntKind.i64.wrap (i + 1))))
    else
      some (.inr (.inl left_))

/-- laws.szStarS -/
noncomputable def laws_szStarS (a : List Star) (left_ : Int) : Option Int :=
  if (decide ((IntKind.i64.wrap (left_ - (a.length : Int))) < 0)) then
    some (-1)
  else
    (whileE (laws_szStarS_l1 a) ((IntKind.i64.wrap (left_ - (a.length : Int))), 0)).bind fun y_6 =>
    match y_6 with
    | .inl y_6a =>
      some y_6a
    | .inr y_6b =>
      some y_6b

/-- laws.szEstimate -/
noncomputable def laws_szEstimate (a : Estimate) (left_ : Int) : Option Int :=
  if (decide ((IntKind.i64.wrap (left_ - (a.Star.length : Int))) < 0)) then
    some (-1)
  else
    if (decide ((IntKind.i64.wrap ((IntKind.i64.wrap (left_ - (a.Star.length : Int))) - (a.Observer.length : Int))) < 0)) then
      some (-1)
    else
      some (IntKind.i64.wrap ((IntKind.i64.wrap (left_ - (a.Star.length : Int))) - (a.Observer.length : Int)))

noncomputable def laws_szEstimateS_l1 (a : List Estimate) : (Int × Int) → Option ((Int × Int) ⊕ (Int ⊕ Int))
  | (left_, i) =>
    if (decide (i < (a.length : Int))) then
      ck (ixOk i a.length) <|
      (laws_szEstimate (a.getD i.toNat default) left_).bind fun y_4 =>
      if (decide (y_4 < 0)) then
        some (.inr (.inr (-1)))
      else
        some (.inl (y_4, (IntKind.i64.wrap (i + 1))))
    else
      some (.inr (.inl left_))

/-- laws.szEstimateS -/
noncomputable def laws_szEstimateS (a : List Estimate) (left_ : Int) : Option Int :=
  if (decide ((IntKind.i64.wrap (left_ - (a.length : Int))) < 0)) then
    some (-1)
  else
    (whileE (laws_szEstimateS_l1 a) ((IntKind.i64.wrap (left_ - (a.length : Int))), 0)).bind fun y_6 =>
    match y_6 with
    | .inl y_6a =>
      some y_6a
    | .inr y_6b =>
      some y_6b

/-- laws.szDesk -/
noncomputable def laws_szDesk (a : Desk) (left_ : Int) : Option Int :=
  (laws_szStarS a.Stars left_).bind fun y_1 =>
  if (decide (y_1 < 0)) then
    some (-1)
  else
    (laws_szEstimateS a.Estimates y_1).bind fun y_3 =>
    if (decide (y_3 < 0)) then
      some (-1)
    else
      if (decide ((IntKind.i64.wrap (y_3 - (a.Log.length : Int))) < 0)) then
        some (-1)
      else
        some (IntKind.i64.wrap (y_3 - (a.Log.length : Int)))

noncomputable def spec_l04Find_l1 (list : List Star) (name : List UInt8) : Int → Option (Int ⊕ (Unit ⊕ Int))
  | i =>
    if (decide (i < (list.length : Int))) then
      ck (ixOk i list.length) <|
      if (((list.getD i.toNat default).Name) == name) then
        some (.inr (.inr i))
      else
        some (.inl (IntKind.i64.wrap (i + 1)))
    else
      some (.inr (.inl ()))

/-- spec.l04Find -/
noncomputable def spec_l04Find (list : List Star) (name : List UInt8) : Option Int :=
  (whileE (spec_l04Find_l1 list name) 0).bind fun y_4 =>
  match y_4 with
  | .inl y_4a =>
    some (-1)
  | .inr y_4b =>
    some y_4b

noncomputable def spec_l01Split_l1 (s_ : List UInt8) (by_ : UInt8) : ((List (List UInt8)) × Int × Int) → Option (((List (List UInt8)) × Int × Int) ⊕ ((List (List UInt8)) × Int))
  | (out, from_, i) =>
    if (decide (i < (s_.length : Int))) then
      ck (ixOk i s_.length) <|
      if (((s_.getD i.toNat 0).toNat : Int) == (by_.toNat : Int)) then
        ck (cutOk from_ i s_.length) <|
        ck (appOk (out.length + ([(cut s_ from_ i)] : List (List UInt8)).length) 16) <|
        some (.inl ((out ++ ([(cut s_ from_ i)] : List (List UInt8))), (IntKind.i64.wrap (i + 1)), (IntKind.i64.wrap (i + 1))))
      else
        some (.inl (out, from_, (IntKind.i64.wrap (i + 1))))
    else
      some (.inr (out, from_))

/-- spec.l01Split -/
noncomputable def spec_l01Split (s_ : List UInt8) (by_ : UInt8) : Option (List (List UInt8)) :=
  (whileE (spec_l01Split_l1 s_ by_) (([] : List (List UInt8)), 0, 0)).bind fun y_6 =>
  ck (cutOk y_6.2 (s_.length : Int) s_.length) <|
  ck (appOk (y_6.1.length + ([(cut s_ y_6.2 (s_.length : Int))] : List (List UInt8)).length) 16) <|
  some (y_6.1 ++ ([(cut s_ y_6.2 (s_.length : Int))] : List (List UInt8)))

noncomputable def spec_l01Dec_l1 (n : Int) : ((List UInt8) × Int) → Option (((List UInt8) × Int) ⊕ (List UInt8))
  | (out, k) =>
    if (!(k == 0)) then
      ck (nz 10) <|
      if (decide ((k.tmod 10) < 0)) then
        ck (appOk (([(toU8 (IntKind.u8.wrap (IntKind.i64.wrap (48 + (IntKind.i64.wrap (0 - (k.tmod 10)))))))] : List UInt8).length + out.length) 1) <|
        some (.inl ((([(toU8 (IntKind.u8.wrap (IntKind.i64.wrap (48 + (IntKind.i64.wrap (0 - (k.tmod 10)))))))] : List UInt8) ++ out), (IntKind.i64.wrap (k.tdiv 10))))
      else
        ck (appOk (([(toU8 (IntKind.u8.wrap (IntKind.i64.wrap (48 + (k.tmod 10)))))] : List UInt8).length + out.length) 1) <|
        some (.inl ((([(toU8 (IntKind.u8.wrap (IntKind.i64.wrap (48 + (k.tmod 10)))))] : List UInt8) ++ out), (IntKind.i64.wrap (k.tdiv 10))))
    else
      some (.inr out)

/-- spec.l01Dec -/
noncomputable def spec_l01Dec (n : Int) : Option (List UInt8) :=
  (whileE (spec_l01Dec_l1 n) (([] : List UInt8), n)).bind fun y_6 =>
  if ((y_6.length : Int) == 0) then
    some ([48] : List UInt8)
  else
    if (decide (n < 0)) then
      ck (catOk ([45] : List UInt8).length y_6.length) <|
      some (([45] : List UInt8) ++ y_6)
    else
      some y_6

/-- spec.l27Words -/
noncomputable def spec_l27Words (e_ : Entry) : Option (List UInt8) :=
  (spec_l01Dec e_.Day).bind fun y_1 =>
  ck (catOk y_1.length ([32] : List UInt8).length) <|
  ck (catOk (y_1 ++ ([32] : List UInt8)).length e_.What.length) <|
  ck (catOk ((y_1 ++ ([32] : List UInt8)) ++ e_.What).length ([32] : List UInt8).length) <|
  (spec_l01Dec e_.Value).bind fun y_5 =>
  ck (catOk (((y_1 ++ ([32] : List UInt8)) ++ e_.What) ++ ([32] : List UInt8)).length y_5.length) <|
  some ((((y_1 ++ ([32] : List UInt8)) ++ e_.What) ++ ([32] : List UInt8)) ++ y_5)

noncomputable def spec_l27Stamp_l1 (words : List UInt8) : (Int × Int) → Option ((Int × Int) ⊕ Int)
  | (sum, i) =>
    if (decide (i < (words.length : Int))) then
      ck (ixOk i words.length) <|
      ck (nz 65521) <|
      some (.inl (((IntKind.i64.wrap ((IntKind.i64.wrap (31 * sum)) + ((words.getD i.toNat 0).toNat : Int))).tmod 65521), (IntKind.i64.wrap (i + 1))))
    else
      some (.inr sum)

/-- spec.l27Stamp -/
noncomputable def spec_l27Stamp (before : Int) (words : List UInt8) : Option Int :=
  ck (nz 65521) <|
  (whileE (spec_l27Stamp_l1 words) (((IntKind.i64.wrap (before + 23)).tmod 65521), 0)).bind fun y_5 =>
  some y_5

/-- spec.l27Line -/
noncomputable def spec_l27Line (stamp : Int) (e_ : Entry) : Option (List UInt8) :=
  (spec_l27Words e_).bind fun y_1 =>
  ck (catOk y_1.length ([32] : List UInt8).length) <|
  (spec_l01Dec stamp).bind fun y_3 =>
  ck (catOk (y_1 ++ ([32] : List UInt8)).length y_3.length) <|
  ck (catOk ((y_1 ++ ([32] : List UInt8)) ++ y_3).length ([10] : List UInt8).length) <|
  some (((y_1 ++ ([32] : List UInt8)) ++ y_3) ++ ([10] : List UInt8))

/-- spec.l01Digit -/
noncomputable def spec_l01Digit (c : UInt8) : Option Bool :=
  some ((decide (48 ≤ (c.toNat : Int))) && (decide ((c.toNat : Int) ≤ 57)))

noncomputable def spec_l01Number_l1 (s_ : List UInt8) (t : List UInt8) : (Int × Int) → Option ((Int × Int) ⊕ (Int ⊕ (Int × Bool)))
  | (n, i) =>
    if (decide (i < (t.length : Int))) then
      ck (ixOk i t.length) <|
      (spec_l01Digit (t.getD i.toNat 0)).bind fun y_7 =>
      if (!y_7) then
        some (.inr (.inr (0, false)))
      else
        some (.inl ((IntKind.i64.wrap ((IntKind.i64.wrap (10 * n)) + (IntKind.i64.wrap (IntKind.u8.wrap (((t.getD i.toNat 0).toNat : Int) - 48))))), (IntKind.i64.wrap (i + 1))))
    else
      some (.inr (.inl n))

noncomputable def spec_l01Number_l2 (s_ : List UInt8) (t : List UInt8) : (Int × Int) → Option ((Int × Int) ⊕ (Int ⊕ (Int × Bool)))
  | (n, i) =>
    if (decide (i < (t.length : Int))) then
      ck (ixOk i t.length) <|
      (spec_l01Digit (t.getD i.toNat 0)).bind fun y_18 =>
      if (!y_18) then
        some (.inr (.inr (0, false)))
      else
        some (.inl ((IntKind.i64.wrap ((IntKind.i64.wrap (10 * n)) + (IntKind.i64.wrap (IntKind.u8.wrap (((t.getD i.toNat 0).toNat : Int) - 48))))), (IntKind.i64.wrap (i + 1))))
    else
      some (.inr (.inl n))

/-- spec.l01Number -/
noncomputable def spec_l01Number (s_ : List UInt8) : Option (Int × Bool) :=
  ck (!(!(s_ == ([] : List UInt8))) || ixOk 0 s_.length) <|
  if ((!(s_ == ([] : List UInt8))) && (((s_.getD 0 0).toNat : Int) == 45)) then
    ck (cutOk 1 (s_.length : Int) s_.length) <|
    if ((decide (((cut s_ 1 (s_.length : Int)).length : Int) < 1)) || (decide (18 < ((cut s_ 1 (s_.length : Int)).length : Int)))) then
      some (0, false)
    else
      (whileE (spec_l01Number_l1 s_ (cut s_ 1 (s_.length : Int))) (0, 0)).bind fun y_9 =>
      match y_9 with
      | .inl y_9a =>
        if (decide (((cut s_ 1 (s_.length : Int)).length : Int) < (s_.length : Int))) then
          (spec_l01Dec (IntKind.i64.wrap (0 - y_9a))).bind fun y_11 =>
          if (!(y_11 == s_)) then
            some (0, false)
          else
            some ((IntKind.i64.wrap (0 - y_9a)), true)
        else
          (spec_l01Dec y_9a).bind fun y_13 =>
          if (!(y_13 == s_)) then
            some (0, false)
          else
            some (y_9a, true)
      | .inr y_9b =>
        some (y_9b.1, y_9b.2)
  else
    if ((decide ((s_.length : Int) < 1)) || (decide (18 < (s_.length : Int)))) then
      some (0, false)
    else
      (whileE (spec_l01Number_l2 s_ s_) (0, 0)).bind fun y_20 =>
      match y_20 with
      | .inl y_20a =>
        if (decide ((s_.length : Int) < (s_.length : Int))) then
          (spec_l01Dec (IntKind.i64.wrap (0 - y_20a))).bind fun y_22 =>
          if (!(y_22 == s_)) then
            some (0, false)
          else
            some ((IntKind.i64.wrap (0 - y_20a)), true)
        else
          (spec_l01Dec y_20a).bind fun y_24 =>
          if (!(y_24 == s_)) then
            some (0, false)
          else
            some (y_20a, true)
      | .inr y_20b =>
        some (y_20b.1, y_20b.2)

/-- spec.l00In -/
noncomputable def spec_l00In (n : Int) (low : Int) (high : Int) : Option Bool :=
  some ((decide (low ≤ n)) && (decide (n ≤ high)))

/-- spec.l27Day -/
noncomputable def spec_l27Day (n : Int) : Option Bool :=
  (spec_l00In n 0 100000).bind fun y_1 =>
  some y_1

/-- spec.l01Small -/
noncomputable def spec_l01Small (c : UInt8) : Option Bool :=
  some ((decide (97 ≤ (c.toNat : Int))) && (decide ((c.toNat : Int) ≤ 122)))

noncomputable def spec_IsName_l1 (s_ : List UInt8) : Int → Option (Int ⊕ (Unit ⊕ Bool))
  | i =>
    if (decide (i < (s_.length : Int))) then
      ck (ixOk i s_.length) <|
      (spec_l01Small (s_.getD i.toNat 0)).bind fun y_6 =>
      ck (!(!y_6) || (spec_l01Digit (s_.getD i.toNat 0)).isSome) <|
      if (((!y_6) && (!((spec_l01Digit (s_.getD i.toNat 0)).getD default))) && (!(((s_.getD i.toNat 0).toNat : Int) == 45))) then
        some (.inr (.inr false))
      else
        some (.inl (IntKind.i64.wrap (i + 1)))
    else
      some (.inr (.inl ()))

/-- spec.IsName -/
noncomputable def spec_IsName (s_ : List UInt8) : Option Bool :=
  ck (!(!((s_ == ([] : List UInt8)) || (decide (12 < (s_.length : Int))))) || ixOk 0 s_.length) <|
  ck (!(!((s_ == ([] : List UInt8)) || (decide (12 < (s_.length : Int))))) || (spec_l01Small (s_.getD 0 0)).isSome) <|
  if (((s_ == ([] : List UInt8)) || (decide (12 < (s_.length : Int)))) || (!((spec_l01Small (s_.getD 0 0)).getD default))) then
    some false
  else
    (whileE (spec_IsName_l1 s_) 0).bind fun y_9 =>
    match y_9 with
    | .inl y_9a =>
      some true
    | .inr y_9b =>
      some y_9b

/-- spec.l27Ok -/
noncomputable def spec_l27Ok (e_ : Entry) : Option Bool :=
  (spec_l27Day e_.Day).bind fun y_1 =>
  ck (!y_1 || (spec_IsName e_.What).isSome) <|
  ck (!(y_1 && ((spec_IsName e_.What).getD default)) || (spec_l00In e_.Value (-1000000) 1000000).isSome) <|
  some ((y_1 && ((spec_IsName e_.What).getD default)) && ((spec_l00In e_.Value (-1000000) 1000000).getD default))

/-- (*spec.l27R).day -/
noncomputable def spec_l27R_day (r : L27R) : Option Int :=
  if ((r.list_.length : Int) == 0) then
    some 0
  else
    ck (ixOk (IntKind.i64.wrap ((r.list_.length : Int) - 1)) r.list_.length) <|
    some ((r.list_.getD (IntKind.i64.wrap ((r.list_.length : Int) - 1)).toNat default).Day)

noncomputable def spec_l27R_lineA_l1 (r : L27R) (t2 : Bool) : Int → Option (Int ⊕ Int)
  | end_ =>
    ck (!(decide (end_ < (r.s_.length : Int))) || ixOk end_ r.s_.length) <|
    if ((decide (end_ < (r.s_.length : Int))) && (!(((r.s_.getD end_.toNat 0).toNat : Int) == 10))) then
      some (.inl (IntKind.i64.wrap (end_ + 1)))
    else
      some (.inr end_)

/-- (*spec.l27R).line up to its append -/
noncomputable def spec_l27R_lineA (r : L27R) : Option (Option (Int × Int × Entry)) :=
  (whileE (spec_l27R_lineA_l1 r false) r.at_).bind fun y_3 =>
  if (decide ((r.s_.length : Int) ≤ y_3)) then
    some (none)
  else
    ck (cutOk r.at_ y_3 r.s_.length) <|
    (spec_l01Split (cut r.s_ r.at_ y_3) (32 : UInt8)).bind fun y_6 =>
    if (!((y_6.length : Int) == 4)) then
      some (none)
    else
      ck (ixOk 0 y_6.length) <|
      (spec_l01Number (y_6.getD 0 default)).bind fun y_9 =>
      ck (ixOk 2 y_6.length) <|
      (spec_l01Number (y_6.getD 2 default)).bind fun y_11 =>
      ck (ixOk 1 y_6.length) <|
      ck (!(!((!y_9.2) || (!y_11.2))) || (spec_l27Ok (Entry.mk y_9.1 (y_6.getD 1 default) y_11.1)).isSome) <|
      ck (!(!(((!y_9.2) || (!y_11.2)) || (!((spec_l27Ok (Entry.mk y_9.1 (y_6.getD 1 default) y_11.1)).getD default)))) || (spec_l27R_day r).isSome) <|
      if ((((!y_9.2) || (!y_11.2)) || (!((spec_l27Ok (Entry.mk y_9.1 (y_6.getD 1 default) y_11.1)).getD default))) || (decide (y_9.1 < ((spec_l27R_day r).getD default)))) then
        some (none)
      else
        (spec_l27Words (Entry.mk y_9.1 (y_6.getD 1 default) y_11.1)).bind fun y_16 =>
        (spec_l27Stamp r.stamp_ y_16).bind fun y_17 =>
        (spec_l27Line y_17 (Entry.mk y_9.1 (y_6.getD 1 default) y_11.1)).bind fun y_18 =>
        ck (cutOk r.at_ (IntKind.i64.wrap (y_3 + 1)) r.s_.length) <|
        if (!(y_18 == (cut r.s_ r.at_ (IntKind.i64.wrap (y_3 + 1))))) then
          some (none)
        else
          some (some (y_3, y_17, (Entry.mk y_9.1 (y_6.getD 1 default) y_11.1)))

/-- (*spec.l27R).line -/
noncomputable def spec_l27R_line (r : L27R) : Option (Bool × L27R) :=
  (spec_l27R_lineA r).bind fun y =>
  match y with
  | none => some (false, r)
  | some q =>
    ck (appOk (r.list_.length + ([q.2.2] : List Entry).length) 32) <|
    some (true, L27R.mk r.s_ (IntKind.i64.wrap (q.1 + 1)) q.2.1 (r.list_ ++ [q.2.2]))

noncomputable def spec_l27Read_l1 : L27R → Option (L27R ⊕ L27R)
  | r => (spec_l27R_line r).bind fun y => if y.1 then some (.inl y.2) else some (.inr y.2)

/-- spec.l27Read -/
noncomputable def spec_l27Read (s_ : List UInt8) : Option L27R := whileE spec_l27Read_l1 (L27R.mk s_ 0 0 [])

/-- spec.l27Code -/
noncomputable def spec_l27Code (s_ : List UInt8) : Option (L27R × Int) :=
  if (decide (4000 < (s_.length : Int))) then
    some ((L27R.mk [] 0 0 ([] : List Entry)), 5)
  else
    (spec_l27Read s_).bind fun y_2 =>
    if (!(y_2.at_ == (s_.length : Int))) then
      some (y_2, 8)
    else
      some (y_2, 0)

/-- spec.l04Ascend -/
noncomputable def spec_l04Ascend (n : Int) : Option Bool :=
  (spec_l00In n 0 86399).bind fun y_1 =>
  some y_1

/-- spec.l04Decl -/
noncomputable def spec_l04Decl (n : Int) : Option Bool :=
  (spec_l00In n (-324000) 324000).bind fun y_1 =>
  some y_1

/-- spec.l02Mag -/
noncomputable def spec_l02Mag (m : Int) : Option Bool :=
  (spec_l00In m (-2000) 20000).bind fun y_1 =>
  some y_1

/-- spec.l04One -/
noncomputable def spec_l04One (x : Star) : Option Bool :=
  (spec_IsName x.Name).bind fun y_1 =>
  ck (!y_1 || (spec_l04Ascend x.Ascend).isSome) <|
  ck (!(y_1 && ((spec_l04Ascend x.Ascend).getD default)) || (spec_l04Decl x.Decl).isSome) <|
  ck (!((y_1 && ((spec_l04Ascend x.Ascend).getD default)) && ((spec_l04Decl x.Decl).getD default)) || (spec_l02Mag x.Bright).isSome) <|
  ck (!(((y_1 && ((spec_l04Ascend x.Ascend).getD default)) && ((spec_l04Decl x.Decl).getD default)) && ((spec_l02Mag x.Bright).getD default)) || (spec_l02Mag x.Faint).isSome) <|
  some (((((y_1 && ((spec_l04Ascend x.Ascend).getD default)) && ((spec_l04Decl x.Decl).getD default)) && ((spec_l02Mag x.Bright).getD default)) && ((spec_l02Mag x.Faint).getD default)) && (decide (x.Bright ≤ x.Faint)))

noncomputable def spec_l04Ok_l1 (list : List Star) : Int → Option (Int ⊕ (Unit ⊕ Bool))
  | i =>
    if (decide (i < (list.length : Int))) then
      ck (ixOk i list.length) <|
      (spec_l04One (list.getD i.toNat default)).bind fun y_3 =>
      ck (!((!(!y_3)) && (decide (0 < i))) || ixOk (IntKind.i64.wrap (i - 1)) list.length) <|
      if ((!y_3) || ((decide (0 < i)) && (!(Op.bytesLess ((list.getD (IntKind.i64.wrap (i - 1)).toNat default).Name) ((list.getD i.toNat default).Name))))) then
        some (.inr (.inr false))
      else
        some (.inl (IntKind.i64.wrap (i + 1)))
    else
      some (.inr (.inl ()))

/-- spec.l04Ok -/
noncomputable def spec_l04Ok (list : List Star) : Option Bool :=
  (whileE (spec_l04Ok_l1 list) 0).bind fun y_6 =>
  match y_6 with
  | .inl y_6a =>
    some (decide ((list.length : Int) ≤ 60))
  | .inr y_6b =>
    some y_6b

/-- spec.l06Time -/
noncomputable def spec_l06Time (n : Int) : Option Bool :=
  (spec_l00In n 0 10000000).bind fun y_1 =>
  some y_1

/-- spec.l06One -/
noncomputable def spec_l06One (e_ : Estimate) : Option Bool :=
  (spec_l06Time e_.Time).bind fun y_1 =>
  ck (!y_1 || (spec_IsName e_.Star).isSome) <|
  ck (!(y_1 && ((spec_IsName e_.Star).getD default)) || (spec_IsName e_.Observer).isSome) <|
  ck (!((y_1 && ((spec_IsName e_.Star).getD default)) && ((spec_IsName e_.Observer).getD default)) || (spec_l02Mag e_.Mag).isSome) <|
  some (((y_1 && ((spec_IsName e_.Star).getD default)) && ((spec_IsName e_.Observer).getD default)) && ((spec_l02Mag e_.Mag).getD default))

/-- spec.l06Before -/
noncomputable def spec_l06Before (a : Estimate) (b : Estimate) : Option Bool :=
  if (!(a.Time == b.Time)) then
    some (decide (a.Time < b.Time))
  else
    if (!(a.Star == b.Star)) then
      some (Op.bytesLess a.Star b.Star)
    else
      some (Op.bytesLess a.Observer b.Observer)

noncomputable def spec_l06Ok_l1 (list : List Estimate) : Int → Option (Int ⊕ (Unit ⊕ Bool))
  | i =>
    if (decide (i < (list.length : Int))) then
      ck (ixOk i list.length) <|
      (spec_l06One (list.getD i.toNat default)).bind fun y_3 =>
      ck (!((!(!y_3)) && (decide (0 < i))) || ixOk (IntKind.i64.wrap (i - 1)) list.length) <|
      ck (!((!(!y_3)) && (decide (0 < i))) || (spec_l06Before (list.getD (IntKind.i64.wrap (i - 1)).toNat default) (list.getD i.toNat default)).isSome) <|
      if ((!y_3) || ((decide (0 < i)) && (!((spec_l06Before (list.getD (IntKind.i64.wrap (i - 1)).toNat default) (list.getD i.toNat default)).getD default)))) then
        some (.inr (.inr false))
      else
        some (.inl (IntKind.i64.wrap (i + 1)))
    else
      some (.inr (.inl ()))

/-- spec.l06Ok -/
noncomputable def spec_l06Ok (list : List Estimate) : Option Bool :=
  (whileE (spec_l06Ok_l1 list) 0).bind fun y_7 =>
  match y_7 with
  | .inl y_7a =>
    some (decide ((list.length : Int) ≤ 100))
  | .inr y_7b =>
    some y_7b

noncomputable def spec_l28Ok_l1 (d : Desk) : Int → Option (Int ⊕ (Unit ⊕ Bool))
  | i =>
    if (decide (i < (d.Estimates.length : Int))) then
      ck (ixOk i d.Estimates.length) <|
      (spec_l04Find d.Stars ((d.Estimates.getD i.toNat default).Star)).bind fun y_7 =>
      if (decide (y_7 < 0)) then
        some (.inr (.inr false))
      else
        some (.inl (IntKind.i64.wrap (i + 1)))
    else
      some (.inr (.inl ()))

/-- spec.l28Ok -/
noncomputable def spec_l28Ok (d : Desk) : Option Bool :=
  (spec_l27Code d.Log).bind fun y_1 =>
  (spec_l04Ok d.Stars).bind fun y_2 =>
  ck (!(!(!y_2)) || (spec_l06Ok d.Estimates).isSome) <|
  if (((!y_2) || (!((spec_l06Ok d.Estimates).getD default))) || (!(y_1.2 == 0))) then
    some false
  else
    (whileE (spec_l28Ok_l1 d) 0).bind fun y_9 =>
    match y_9 with
    | .inl y_9a =>
      some true
    | .inr y_9b =>
      some y_9b

/-- spec.l28Text -/
noncomputable def spec_l28Text (d : Desk) : Option (List UInt8) :=
  (spec_l01Dec (d.Stars.length : Int)).bind fun y_1 =>
  ck (catOk y_1.length ([32, 115, 116, 97, 114, 115, 32] : List UInt8).length) <|
  (spec_l01Dec (d.Estimates.length : Int)).bind fun y_3 =>
  ck (catOk (y_1 ++ ([32, 115, 116, 97, 114, 115, 32] : List UInt8)).length y_3.length) <|
  ck (catOk ((y_1 ++ ([32, 115, 116, 97, 114, 115, 32] : List UInt8)) ++ y_3).length ([32, 101, 115, 116, 105, 109, 97, 116, 101, 115] : List UInt8).length) <|
  some (((y_1 ++ ([32, 115, 116, 97, 114, 115, 32] : List UInt8)) ++ y_3) ++ ([32, 101, 115, 116, 105, 109, 97, 116, 101, 115] : List UInt8))

/-- spec.DeskText -/
noncomputable def spec_DeskText (d : Desk) : Option (List UInt8) :=
  (spec_l28Ok d).bind fun y_1 =>
  if (!y_1) then
    some ([] : List UInt8)
  else
    (spec_l28Text d).bind fun y_3 =>
    some y_3

/-- impl.in -/
noncomputable def impl_in (n : Int) (low : Int) (high : Int) : Option Bool :=
  some ((decide (low ≤ n)) && (decide (n ≤ high)))

noncomputable def impl_IsName_l1 (s_ : List UInt8) (t15 : Int) : Int → Option (Int ⊕ (Unit ⊕ Bool))
  | t16 =>
    if (decide (t16 < t15)) then
      ck (ixOk t16 s_.length) <|
      if ((!((decide (97 ≤ ((s_.getD t16.toNat 0).toNat : Int))) && (decide (((s_.getD t16.toNat 0).toNat : Int) ≤ 122)))) && ((t16 == 0) || (!(((decide (48 ≤ ((s_.getD t16.toNat 0).toNat : Int))) && (decide (((s_.getD t16.toNat 0).toNat : Int) ≤ 57))) || (((s_.getD t16.toNat 0).toNat : Int) == 45))))) then
        some (.inr (.inr false))
      else
        some (.inl (IntKind.i64.wrap (t16 + 1)))
    else
      some (.inr (.inl ()))

/-- impl.IsName -/
noncomputable def impl_IsName (s_ : List UInt8) : Option Bool :=
  if ((decide ((s_.length : Int) < 1)) || (decide (12 < (s_.length : Int)))) then
    some false
  else
    (whileE (impl_IsName_l1 s_ (s_.length : Int)) 0).bind fun y_5 =>
    match y_5 with
    | .inl y_5a =>
      some true
    | .inr y_5b =>
      some y_5b

/-- impl.ValidMag -/
noncomputable def impl_ValidMag (m : Int) : Option Bool :=
  (impl_in m (-2000) 20000).bind fun y_1 =>
  some y_1

/-- impl.isStar -/
noncomputable def impl_isStar (x : Star) : Option Bool :=
  (impl_in x.Ascend 0 86399).bind fun y_1 =>
  ck (!y_1 || (impl_in x.Decl (-324000) 324000).isSome) <|
  (impl_IsName x.Name).bind fun y_3 =>
  ck (!(y_3 && (y_1 && ((impl_in x.Decl (-324000) 324000).getD default))) || (impl_ValidMag x.Bright).isSome) <|
  ck (!((y_3 && (y_1 && ((impl_in x.Decl (-324000) 324000).getD default))) && ((impl_ValidMag x.Bright).getD default)) || (impl_ValidMag x.Faint).isSome) <|
  some ((((y_3 && (y_1 && ((impl_in x.Decl (-324000) 324000).getD default))) && ((impl_ValidMag x.Bright).getD default)) && ((impl_ValidMag x.Faint).getD default)) && (decide (x.Bright ≤ x.Faint)))

/-- impl.starName -/
noncomputable def impl_starName (x : Star) : Option (List UInt8) :=
  some x.Name

noncomputable def impl_rising_impl_Star__impl_isStar__impl_starName_l1 (list : List Star) (t15 : List Star) (t16 : Int) : Int → Option (Int ⊕ (Unit ⊕ Bool))
  | t17 =>
    if (decide (t17 < t16)) then
      ck (ixOk t17 t15.length) <|
      (impl_isStar (t15.getD t17.toNat default)).bind fun y_4 =>
      ck (!((!(!y_4)) && (decide (0 < t17))) || ixOk (IntKind.i64.wrap (t17 - 1)) list.length) <|
      ck (!((!(!y_4)) && (decide (0 < t17))) || (impl_starName (list.getD (IntKind.i64.wrap (t17 - 1)).toNat default)).isSome) <|
      ck (!((!(!y_4)) && (decide (0 < t17))) || (impl_starName (t15.getD t17.toNat default)).isSome) <|
      if ((!y_4) || ((decide (0 < t17)) && (!(Op.bytesLess ((impl_starName (list.getD (IntKind.i64.wrap (t17 - 1)).toNat default)).getD default) ((impl_starName (t15.getD t17.toNat default)).getD default))))) then
        some (.inr (.inr false))
      else
        some (.inl (IntKind.i64.wrap (t17 + 1)))
    else
      some (.inr (.inl ()))

/-- impl.rising[impl.Star] -/
noncomputable def impl_rising_impl_Star__impl_isStar__impl_starName (list : List Star) (most : Int) : Option Bool :=
  if (decide (most < (list.length : Int))) then
    some false
  else
    (whileE (impl_rising_impl_Star__impl_isStar__impl_starName_l1 list list (list.length : Int)) 0).bind fun y_9 =>
    match y_9 with
    | .inl y_9a =>
      some true
    | .inr y_9b =>
      some y_9b

/-- impl.ValidStars -/
noncomputable def impl_ValidStars (list : List Star) : Option Bool :=
  (impl_rising_impl_Star__impl_isStar__impl_starName list 60).bind fun y_1 =>
  some y_1

/-- impl.ValidTime -/
noncomputable def impl_ValidTime (t : Int) : Option Bool :=
  (impl_in t 0 10000000).bind fun y_1 =>
  some y_1

/-- impl.isEstimate -/
noncomputable def impl_isEstimate (e_ : Estimate) : Option Bool :=
  (impl_ValidTime e_.Time).bind fun y_1 =>
  ck (!y_1 || (impl_IsName e_.Star).isSome) <|
  ck (!(y_1 && ((impl_IsName e_.Star).getD default)) || (impl_IsName e_.Observer).isSome) <|
  ck (!((y_1 && ((impl_IsName e_.Star).getD default)) && ((impl_IsName e_.Observer).getD default)) || (impl_ValidMag e_.Mag).isSome) <|
  some (((y_1 && ((impl_IsName e_.Star).getD default)) && ((impl_IsName e_.Observer).getD default)) && ((impl_ValidMag e_.Mag).getD default))

/-- cmp.isNaN[int64] -/
noncomputable def cmp_isNaN_int64 (x : Int) : Option Bool :=
  some (!(x == x))

/-- cmp.Compare[int64] -/
noncomputable def cmp_Compare_int64 (x : Int) (y : Int) : Option Int :=
  (cmp_isNaN_int64 x).bind fun y_1 =>
  (cmp_isNaN_int64 y).bind fun y_2 =>
  if y_1 then
    if y_2 then
      some 0
    else
      some (-1)
  else
    if y_2 then
      some 1
    else
      if (decide (x < y)) then
        some (-1)
      else
        if (decide (y < x)) then
          some 1
        else
          some 0


/-- internal/bytealg.CompareString -/
noncomputable def internal_bytealg_CompareString (a : List UInt8) (b : List UInt8) : Option Int :=
  (hCmp a b).bind fun y_1 =>
  some y_1

/-- strings.Compare -/
noncomputable def strings_Compare (a : List UInt8) (b : List UInt8) : Option Int :=
  (internal_bytealg_CompareString a b).bind fun y_1 =>
  some y_1

noncomputable def cmp_Or_int_l1 (zero : Int) (t6 : List Int) (t7 : Int) : Int → Option (Int ⊕ (Unit ⊕ Int))
  | t8 =>
    if (decide (t8 < t7)) then
      ck (ixOk t8 t6.length) <|
      if (!((t6.getD t8.toNat default) == zero)) then
        some (.inr (.inr (t6.getD t8.toNat default)))
      else
        some (.inl (IntKind.i64.wrap (t8 + 1)))
    else
      some (.inr (.inl ()))

/-- cmp.Or[int] -/
noncomputable def cmp_Or_int (vals : List Int) : Option Int :=
  (whileE (cmp_Or_int_l1 0 vals (vals.length : Int)) 0).bind fun y_4 =>
  match y_4 with
  | .inl y_4a =>
    some 0
  | .inr y_4b =>
    some y_4b

/-- impl.compareEstimates -/
noncomputable def impl_compareEstimates (a : Estimate) (b : Estimate) : Option Int :=
  (cmp_Compare_int64 a.Time b.Time).bind fun y_1 =>
  (strings_Compare a.Star b.Star).bind fun y_2 =>
  (strings_Compare a.Observer b.Observer).bind fun y_3 =>
  (cmp_Or_int ([y_1, y_2, y_3] : List Int)).bind fun y_4 =>
  some y_4

noncomputable def impl_ValidEstimates_l1 (list : List Estimate) (t8 : List Estimate) (t9 : Int) : Int → Option (Int ⊕ (Unit ⊕ Bool))
  | t10 =>
    if (decide (t10 < t9)) then
      ck (ixOk t10 t8.length) <|
      (impl_isEstimate (t8.getD t10.toNat default)).bind fun y_4 =>
      ck (!((!(!y_4)) && (decide (0 < t10))) || ixOk (IntKind.i64.wrap (t10 - 1)) list.length) <|
      ck (!((!(!y_4)) && (decide (0 < t10))) || (impl_compareEstimates (list.getD (IntKind.i64.wrap (t10 - 1)).toNat default) (t8.getD t10.toNat default)).isSome) <|
      if ((!y_4) || ((decide (0 < t10)) && (decide (0 ≤ ((impl_compareEstimates (list.getD (IntKind.i64.wrap (t10 - 1)).toNat default) (t8.getD t10.toNat default)).getD default))))) then
        some (.inr (.inr false))
      else
        some (.inl (IntKind.i64.wrap (t10 + 1)))
    else
      some (.inr (.inl ()))

/-- impl.ValidEstimates -/
noncomputable def impl_ValidEstimates (list : List Estimate) : Option Bool :=
  if (decide (100 < (list.length : Int))) then
    some false
  else
    (whileE (impl_ValidEstimates_l1 list list (list.length : Int)) 0).bind fun y_8 =>
    match y_8 with
    | .inl y_8a =>
      some true
    | .inr y_8b =>
      some y_8b

/-- impl.hasStar$1 -/
noncomputable def impl_hasStar_c1 (x : Star) (t1 : List UInt8) : Option Bool :=
  some (x.Name == t1)

noncomputable def slices_IndexFunc_impl_Star_impl_Star__impl_hasStar_c1_l1 (s_ : List Star) (c : List UInt8) (t7 : Int) : Int → Option (Int ⊕ (Unit ⊕ Int))
  | t8 =>
    if (decide (t8 < t7)) then
      ck (ixOk t8 s_.length) <|
      (impl_hasStar_c1 (s_.getD t8.toNat default) c).bind fun y_3 =>
      if y_3 then
        some (.inr (.inr t8))
      else
        some (.inl (IntKind.i64.wrap (t8 + 1)))
    else
      some (.inr (.inl ()))

/-- slices.IndexFunc[[]impl.Star,impl.Star] -/
noncomputable def slices_IndexFunc_impl_Star_impl_Star__impl_hasStar_c1 (s_ : List Star) (f_c0 : List UInt8) : Option Int :=
  (whileE (slices_IndexFunc_impl_Star_impl_Star__impl_hasStar_c1_l1 s_ f_c0 (s_.length : Int)) 0).bind fun y_5 =>
  match y_5 with
  | .inl y_5a =>
    some (-1)
  | .inr y_5b =>
    some y_5b

/-- slices.ContainsFunc[[]impl.Star,impl.Star] -/
noncomputable def slices_ContainsFunc_impl_Star_impl_Star__impl_hasStar_c1 (s_ : List Star) (f_c0 : List UInt8) : Option Bool :=
  (slices_IndexFunc_impl_Star_impl_Star__impl_hasStar_c1 s_ f_c0).bind fun y_1 =>
  some (decide (0 ≤ y_1))

/-- impl.hasStar -/
noncomputable def impl_hasStar (list : List Star) (name : List UInt8) : Option Bool :=
  (slices_ContainsFunc_impl_Star_impl_Star__impl_hasStar_c1 list name).bind fun y_1 =>
  some y_1




/-- impl.ValidEntry -/
noncomputable def impl_ValidEntry (e_ : Entry) : Option Bool :=
  (impl_in e_.Day 0 100000).bind fun y_1 =>
  ck (!y_1 || (impl_IsName e_.What).isSome) <|
  ck (!(y_1 && ((impl_IsName e_.What).getD default)) || (impl_in e_.Value (-1000000) 1000000).isSome) <|
  some ((y_1 && ((impl_IsName e_.What).getD default)) && ((impl_in e_.Value (-1000000) 1000000).getD default))

/-- impl.readEntry -/
noncomputable def impl_readEntry (line : List UInt8) : Option (Entry × Int × Bool) :=
  (hSplit line ([32] : List UInt8)).bind fun y_1 =>
  if (!((y_1.length : Int) == 4)) then
    some ((Entry.mk 0 [] 0), 0, false)
  else
    ck (ixOk 0 y_1.length) <|
    (hRdDec (y_1.getD 0 default)).bind fun y_4 =>
    ck (ixOk 2 y_1.length) <|
    (hRdDec (y_1.getD 2 default)).bind fun y_6 =>
    ck (ixOk 3 y_1.length) <|
    (hRdDec (y_1.getD 3 default)).bind fun y_8 =>
    ck (ixOk 1 y_1.length) <|
    ck (!((y_4.2 && y_6.2) && y_8.2) || (impl_ValidEntry (Entry.mk y_4.1 (y_1.getD 1 default) y_6.1)).isSome) <|
    some ((Entry.mk y_4.1 (y_1.getD 1 default) y_6.1), y_8.1, (((y_4.2 && y_6.2) && y_8.2) && ((impl_ValidEntry (Entry.mk y_4.1 (y_1.getD 1 default) y_6.1)).getD default)))


/-- strconv.FormatInt -/
noncomputable def strconv_FormatInt (i : Int) (base : Int) : Option (List UInt8) :=
  (hFmt i base).bind fun y_1 =>
  some y_1

/-- impl.Decimal -/
noncomputable def impl_Decimal (n : Int) : Option (List UInt8) :=
  (strconv_FormatInt n 10).bind fun y_1 =>
  some y_1

/-- (impl.Entry).words -/
noncomputable def impl_Entry_words (e_ : Entry) : Option (List UInt8) :=
  (impl_Decimal e_.Day).bind fun y_1 =>
  ck (catOk y_1.length ([32] : List UInt8).length) <|
  ck (catOk (y_1 ++ ([32] : List UInt8)).length e_.What.length) <|
  ck (catOk ((y_1 ++ ([32] : List UInt8)) ++ e_.What).length ([32] : List UInt8).length) <|
  (impl_Decimal e_.Value).bind fun y_5 =>
  ck (catOk (((y_1 ++ ([32] : List UInt8)) ++ e_.What) ++ ([32] : List UInt8)).length y_5.length) <|
  some ((((y_1 ++ ([32] : List UInt8)) ++ e_.What) ++ ([32] : List UInt8)) ++ y_5)

noncomputable def impl_stamp_l1 (words : List UInt8) (t14 : Int) : (Int × Int) → Option ((Int × Int) ⊕ Int)
  | (sum, t15) =>
    if (decide (t15 < t14)) then
      ck (ixOk t15 words.length) <|
      ck (nz 65521) <|
      some (.inl (((IntKind.i64.wrap ((IntKind.i64.wrap (31 * sum)) + ((words.getD t15.toNat 0).toNat : Int))).tmod 65521), (IntKind.i64.wrap (t15 + 1))))
    else
      some (.inr sum)

/-- impl.stamp -/
noncomputable def impl_stamp (before : Int) (e_ : Entry) : Option Int :=
  ck (nz 65521) <|
  (impl_Entry_words e_).bind fun y_2 =>
  (whileE (impl_stamp_l1 y_2 (y_2.length : Int)) (((IntKind.i64.wrap (before + 23)).tmod 65521), 0)).bind fun y_6 =>
  some y_6

noncomputable def impl_readLog_l1 (log : List UInt8) : ((List Entry) × Int × Int × Int) → Option (((List Entry) × Int × Int × Int) ⊕ ((List Entry) × Int × Int))
  | (entries, used, last, day) =>
    ck (cutOk used (log.length : Int) log.length) <|
    (hCut (cut log used (log.length : Int)) ([10] : List UInt8)).bind fun y_2 =>
    (impl_readEntry y_2.1).bind fun y_3 =>
    ck (!(!(((!y_2.2.2) || (!y_3.2.2)) || (decide (y_3.1.Day < day)))) || (impl_stamp last y_3.1).isSome) <|
    if ((((!y_2.2.2) || (!y_3.2.2)) || (decide (y_3.1.Day < day))) || (!(y_3.2.1 == ((impl_stamp last y_3.1).getD default)))) then
      some (.inr (entries, used, last))
    else
      ck (appOk (entries.length + ([y_3.1] : List Entry).length) 32) <|
      some (.inl ((entries ++ ([y_3.1] : List Entry)), (IntKind.i64.wrap (used + (IntKind.i64.wrap ((y_2.1.length : Int) + 1)))), y_3.2.1, y_3.1.Day))

/-- impl.readLog -/
noncomputable def impl_readLog (log : List UInt8) : Option ((List Entry) × Int × Int) :=
  (whileE (impl_readLog_l1 log) (([] : List Entry), 0, 0, 0)).bind fun y_7 =>
  some (y_7.1, y_7.2.1, y_7.2.2)

/-- impl.wholeLog -/
noncomputable def impl_wholeLog (log : List UInt8) : Option ((List Entry) × Int × Int) :=
  if (decide (4000 < (log.length : Int))) then
    some (([] : List Entry), 0, 5)
  else
    (impl_readLog log).bind fun y_2 =>
    if (decide (y_2.2.1 < (log.length : Int))) then
      some (([] : List Entry), 0, 8)
    else
      some (y_2.1, y_2.2.2, 0)

/-- impl.EntriesOf -/
noncomputable def impl_EntriesOf (log : List UInt8) : Option ((List Entry) × Int) :=
  (impl_wholeLog log).bind fun y_1 =>
  some (y_1.1, y_1.2.2)

noncomputable def impl_ValidDesk_l1 (d : Desk) (t18 : List Estimate) (t19 : Int) : Int → Option (Int ⊕ (Unit ⊕ Bool))
  | t20 =>
    if (decide (t20 < t19)) then
      ck (ixOk t20 t18.length) <|
      (impl_hasStar d.Stars ((t18.getD t20.toNat default).Star)).bind fun y_6 =>
      if (!y_6) then
        some (.inr (.inr false))
      else
        some (.inl (IntKind.i64.wrap (t20 + 1)))
    else
      some (.inr (.inl ()))

/-- impl.ValidDesk -/
noncomputable def impl_ValidDesk (d : Desk) : Option Bool :=
  (impl_ValidStars d.Stars).bind fun y_1 =>
  ck (!(!(!y_1)) || (impl_ValidEstimates d.Estimates).isSome) <|
  if ((!y_1) || (!((impl_ValidEstimates d.Estimates).getD default))) then
    some false
  else
    (whileE (impl_ValidDesk_l1 d d.Estimates (d.Estimates.length : Int)) 0).bind fun y_8 =>
    match y_8 with
    | .inl y_8a =>
      (impl_EntriesOf d.Log).bind fun y_9 =>
      some (y_9.2 == 0)
    | .inr y_8b =>
      some y_8b

/-- impl.count[impl.Star] -/
noncomputable def impl_count_impl_Star (list : List Star) : Option Int :=
  some (list.length : Int)

/-- impl.count[impl.Estimate] -/
noncomputable def impl_count_impl_Estimate (list : List Estimate) : Option Int :=
  some (list.length : Int)

/-- (impl.Desk).text -/
noncomputable def impl_Desk_text (d : Desk) : Option (List UInt8) :=
  (impl_count_impl_Star d.Stars).bind fun y_1 =>
  (impl_Decimal y_1).bind fun y_2 =>
  ck (catOk y_2.length ([32, 115, 116, 97, 114, 115, 32] : List UInt8).length) <|
  (impl_count_impl_Estimate d.Estimates).bind fun y_4 =>
  (impl_Decimal y_4).bind fun y_5 =>
  ck (catOk (y_2 ++ ([32, 115, 116, 97, 114, 115, 32] : List UInt8)).length y_5.length) <|
  ck (catOk ((y_2 ++ ([32, 115, 116, 97, 114, 115, 32] : List UInt8)) ++ y_5).length ([32, 101, 115, 116, 105, 109, 97, 116, 101, 115] : List UInt8).length) <|
  some (((y_2 ++ ([32, 115, 116, 97, 114, 115, 32] : List UInt8)) ++ y_5) ++ ([32, 101, 115, 116, 105, 109, 97, 116, 101, 115] : List UInt8))

/-- impl.DeskText -/
noncomputable def impl_DeskText (d : Desk) : Option (List UInt8) :=
  (impl_ValidDesk d).bind fun y_1 =>
  if (!y_1) then
    some ([] : List UInt8)
  else
    (impl_Desk_text d).bind fun y_3 =>
    some y_3

/-- laws.FnExactDeskText -/
noncomputable def laws_FnExactDeskText (aD : Desk) : Option Bool :=
  (laws_szDesk aD 1048576).bind fun y_1 =>
  if (decide (y_1 < 0)) then
    some true
  else
    (laws_toDesk aD).bind fun y_3 =>
    (spec_DeskText y_3).bind fun y_4 =>
    (impl_DeskText y_3).bind fun y_5 =>
    if (!(y_5 == y_4)) then
      some false
    else
      (laws_eqDesk y_3 y_3).bind fun y_7 =>
      if (!y_7) then
        some false
      else
        some true

end Go.Proofs.YtbdghipedlldbaaGreatDoor
