/- Typed forms of the functions that R1 reaches. No condition. -/
import Derived.Test.YtkapngmboghaeaaEngTA
namespace Go.Proofs.Ytkapngmboghaeaa
open Go Go.RowKit
set_option linter.unusedVariables false

structure Entry where
  Day : Int
  What : List UInt8
  Value : Int
  deriving Inhabited, DecidableEq
def Entry_av (x : Entry) : AV := .agg ([.int .i64 x.Day, .str x.What, .int .i64 x.Value])

attribute [go_sem] Entry_av

/-- spec.l00In -/
noncomputable def spec_l00In (n : Int) (low : Int) (high : Int) : Option Bool :=
  some ((decide (low ≤ n)) && (decide (n ≤ high)))

/-- spec.l26Kind -/
noncomputable def spec_l26Kind (n : Int) : Option Bool :=
  (spec_l00In n 1 5).bind fun y_1 =>
  some y_1

/-- spec.l26Names -/
noncomputable def spec_l26Names  : Option (List (List UInt8)) :=
  some ([([115, 116, 97, 114] : List UInt8), ([111, 98, 115, 101, 114, 118, 101, 114] : List UInt8), ([98, 114, 105, 103, 104, 116] : List UInt8), ([102, 97, 105, 110, 116] : List UInt8), ([116, 119, 105, 110] : List UInt8)] : List (List UInt8))

/-- spec.FaultName -/
noncomputable def spec_FaultName (kind : Int) : Option (List UInt8) :=
  (spec_l26Kind kind).bind fun y_1 =>
  if (!y_1) then
    some ([] : List UInt8)
  else
    (spec_l26Names).bind fun y_3 =>
    ck (ixOk (IntKind.i64.wrap (kind - 1)) y_3.length) <|
    some (y_3.getD (IntKind.i64.wrap (kind - 1)).toNat default)

/-- impl.in -/
noncomputable def impl_in (n : Int) (low : Int) (high : Int) : Option Bool :=
  some ((decide (low ≤ n)) && (decide (n ≤ high)))

/-- impl.faultNames -/
noncomputable def impl_faultNames  : Option (List (List UInt8)) :=
  some ([([115, 116, 97, 114] : List UInt8), ([111, 98, 115, 101, 114, 118, 101, 114] : List UInt8), ([98, 114, 105, 103, 104, 116] : List UInt8), ([102, 97, 105, 110, 116] : List UInt8), ([116, 119, 105, 110] : List UInt8)] : List (List UInt8))

/-- impl.FaultName -/
noncomputable def impl_FaultName (kind : Int) : Option (List UInt8) :=
  (impl_in kind 1 5).bind fun y_1 =>
  if (!y_1) then
    some ([] : List UInt8)
  else
    (impl_faultNames).bind fun y_3 =>
    ck (ixOk (IntKind.i64.wrap (kind - 1)) y_3.length) <|
    some (y_3.getD (IntKind.i64.wrap (kind - 1)).toNat default)

/-- laws.FnExactFaultName -/
noncomputable def laws_FnExactFaultName (aKind : Int) : Option Bool :=
  (spec_FaultName aKind).bind fun y_1 =>
  (impl_FaultName aKind).bind fun y_2 =>
  if (!(y_2 == y_1)) then
    some false
  else
    some true

/-- spec.l28Words -/
noncomputable def spec_l28Words  : Option (List (List UInt8)) :=
  some ([([97, 109, 112] : List UInt8), ([98, 101, 115, 116] : List UInt8), ([99, 117, 114, 118, 101] : List UInt8), ([101, 110, 116, 101, 114] : List UInt8), ([101, 115, 116] : List UInt8), ([102, 111, 108, 100] : List UInt8), ([108, 97, 115, 116] : List UInt8), ([108, 111, 103] : List UInt8), ([112, 97, 105, 114, 115] : List UInt8), ([115, 116, 97, 114] : List UInt8)] : List (List UInt8))

/-- spec.DeskWords -/
noncomputable def spec_DeskWords  : Option (List (List UInt8)) :=
  (spec_l28Words).bind fun y_1 =>
  some y_1

/-- impl.DeskWords -/
noncomputable def impl_DeskWords  : Option (List (List UInt8)) :=
  some ([([97, 109, 112] : List UInt8), ([98, 101, 115, 116] : List UInt8), ([99, 117, 114, 118, 101] : List UInt8), ([101, 110, 116, 101, 114] : List UInt8), ([101, 115, 116] : List UInt8), ([102, 111, 108, 100] : List UInt8), ([108, 97, 115, 116] : List UInt8), ([108, 111, 103] : List UInt8), ([112, 97, 105, 114, 115] : List UInt8), ([115, 116, 97, 114] : List UInt8)] : List (List UInt8))

noncomputable def laws_eqStringS_l1 (a : List (List UInt8)) (b : List (List UInt8)) : Int → Option (Int ⊕ (Unit ⊕ Bool))
  | i =>
    if (decide (i < (a.length : Int))) then
      ck (ixOk i a.length) <|
      ck (ixOk i b.length) <|
      if (!((a.getD i.toNat default) == (b.getD i.toNat default))) then
        some (.inr (.inr false))
      else
        some (.inl (IntKind.i64.wrap (i + 1)))
    else
      some (.inr (.inl ()))

/-- laws.eqStringS -/
noncomputable def laws_eqStringS (a : List (List UInt8)) (b : List (List UInt8)) : Option Bool :=
  if (!((a.length : Int) == (b.length : Int))) then
    some false
  else
    (whileE (laws_eqStringS_l1 a b) 0).bind fun y_6 =>
    match y_6 with
    | .inl y_6a =>
      some true
    | .inr y_6b =>
      some y_6b

noncomputable def laws_markText_l1  : (Int × (List UInt8)) → Option ((Int × (List UInt8)) ⊕ (List UInt8))
  | (k, out) =>
    if (decide (0 < k)) then
      ck (nz 10) <|
      ck (catOk ([(toU8 (IntKind.u8.wrap (IntKind.i64.wrap (48 + (k.tmod 10)))))] : List UInt8).length out.length) <|
      some (.inl ((IntKind.i64.wrap (k.tdiv 10)), (([(toU8 (IntKind.u8.wrap (IntKind.i64.wrap (48 + (k.tmod 10)))))] : List UInt8) ++ out)))
    else
      some (.inr out)

/-- laws.markText -/
noncomputable def laws_markText (k : Int) : Option (List UInt8) :=
  if (decide (k ≤ 0)) then
    some ([109, 48] : List UInt8)
  else
    (whileE (laws_markText_l1) (k, ([] : List UInt8))).bind fun y_5 =>
    ck (catOk ([109] : List UInt8).length y_5.length) <|
    some (([109] : List UInt8) ++ y_5)

noncomputable def laws_markStringS_l1  : ((List (List UInt8)) × Int × Int) → Option (((List (List UInt8)) × Int × Int) ⊕ ((List (List UInt8)) × Int))
  | (a, k, i) =>
    if (decide (i < (a.length : Int))) then
      (laws_markText k).bind fun y_2 =>
      ck (ixOk i a.length) <|
      some (.inl ((a.set i.toNat y_2), (IntKind.i64.wrap (k + 1)), (IntKind.i64.wrap (i + 1))))
    else
      some (.inr (a, k))

/-- laws.markStringS -/
noncomputable def laws_markStringS (a : List (List UInt8)) (k : Int) : Option (Int × (List (List UInt8))) :=
  (whileE (laws_markStringS_l1) (a, k, 0)).bind fun y_4 =>
  ck (y_4.1.length == a.length) <|
  some (y_4.2, y_4.1)

noncomputable def laws_heldStringS_l1 (a : List (List UInt8)) : (Int × Int) → Option ((Int × Int) ⊕ (Int ⊕ Int))
  | (k, i) =>
    if (decide (i < (a.length : Int))) then
      ck (ixOk i a.length) <|
      (laws_markText k).bind fun y_3 =>
      if (!((a.getD i.toNat default) == y_3)) then
        some (.inr (.inr (-1)))
      else
        some (.inl ((IntKind.i64.wrap (k + 1)), (IntKind.i64.wrap (i + 1))))
    else
      some (.inr (.inl k))

/-- laws.heldStringS -/
noncomputable def laws_heldStringS (a : List (List UInt8)) (k : Int) : Option Int :=
  (whileE (laws_heldStringS_l1 a) (k, 0)).bind fun y_5 =>
  match y_5 with
  | .inl y_5a =>
    some y_5a
  | .inr y_5b =>
    some y_5b

/-- laws.FnExactDeskWords -/
noncomputable def laws_FnExactDeskWords  : Option Bool :=
  (spec_DeskWords).bind fun y_1 =>
  (impl_DeskWords).bind fun y_2 =>
  (laws_eqStringS y_2 y_1).bind fun y_3 =>
  if (!y_3) then
    some false
  else
    (laws_markStringS y_2 1).bind fun y_5 =>
    (laws_heldStringS y_5.2 1).bind fun y_6 =>
    if (decide (y_6 < 0)) then
      some false
    else
      if (!(y_6 == y_5.1)) then
        some false
      else
        some true

noncomputable def laws_toByteS_l1 (a : List UInt8) : ((List UInt8) × Int) → Option (((List UInt8) × Int) ⊕ (List UInt8))
  | (out, i) =>
    if (decide (i < (a.length : Int))) then
      ck (ixOk i a.length) <|
      ck (ixOk i out.length) <|
      some (.inl ((out.set i.toNat (a.getD i.toNat default)), (IntKind.i64.wrap (i + 1))))
    else
      some (.inr out)

/-- laws.toByteS -/
noncomputable def laws_toByteS (a : List UInt8) : Option (List UInt8) :=
  ck (mkOk (a.length : Int) 1) <|
  (whileE (laws_toByteS_l1 a) ((List.replicate (a.length : Int).toNat 0), 0)).bind fun y_5 =>
  some y_5

noncomputable def spec_l25Read_l1 (b : List UInt8) : (Int × Int) → Option ((Int × Int) ⊕ (Unit ⊕ (Int × Int × Bool)))
  | (n, i) =>
    if ((decide (i < (b.length : Int))) && (decide (i < 9))) then
      ck (ixOk i b.length) <|
      ck (shOk (IntKind.u64.wrap (IntKind.i64.wrap (7 * i)))) <|
      if (decide (((b.getD i.toNat default).toNat : Int) < 128)) then
        if ((decide (0 < i)) && (((b.getD i.toNat default).toNat : Int) == 0)) then
          some (.inr (.inr (0, 0, false)))
        else
          some (.inr (.inr ((IntKind.i64.wrap (n + (IntKind.i64.wrap ((IntKind.i64.wrap (IntKind.u8.wrap (BitVec.ofInt (IntKind.bits .u8) ((b.getD i.toNat default).toNat : Int) &&& BitVec.ofInt (IntKind.bits .u8) 127).toNat)) * 2 ^ (min (IntKind.u64.wrap (IntKind.i64.wrap (7 * i))).toNat 64))))), (IntKind.i64.wrap (i + 1)), true)))
      else
        some (.inl ((IntKind.i64.wrap (n + (IntKind.i64.wrap ((IntKind.i64.wrap (IntKind.u8.wrap (BitVec.ofInt (IntKind.bits .u8) ((b.getD i.toNat default).toNat : Int) &&& BitVec.ofInt (IntKind.bits .u8) 127).toNat)) * 2 ^ (min (IntKind.u64.wrap (IntKind.i64.wrap (7 * i))).toNat 64))))), (IntKind.i64.wrap (i + 1))))
    else
      some (.inr (.inl ()))

/-- spec.l25Read -/
noncomputable def spec_l25Read (b : List UInt8) : Option (Int × Int × Bool) :=
  (whileE (spec_l25Read_l1 b) (0, 0)).bind fun y_6 =>
  match y_6 with
  | .inl y_6a =>
    some (0, 0, false)
  | .inr y_6b =>
    some (y_6b.1, y_6b.2.1, y_6b.2.2)

/-- spec.ReadNumber -/
noncomputable def spec_ReadNumber (b : List UInt8) : Option (Int × Int × Bool) :=
  (spec_l25Read b).bind fun y_1 =>
  some (y_1.1, y_1.2.1, y_1.2.2)

noncomputable def impl_ReadNumber_l1 (b : List UInt8) : (Int × Int) → Option ((Int × Int) ⊕ (Unit ⊕ (Int × Int × Bool)))
  | (n, i) =>
    if ((decide (i < (b.length : Int))) && (decide (i < 9))) then
      ck (ixOk i b.length) <|
      ck (shOk (IntKind.i64.wrap (7 * i))) <|
      if (decide (((b.getD i.toNat default).toNat : Int) < 128)) then
        if ((((b.getD i.toNat default).toNat : Int) == 0) && (decide (0 < i))) then
          some (.inr (.inr (0, 0, false)))
        else
          some (.inr (.inr ((IntKind.i64.wrap (BitVec.ofInt (IntKind.bits .i64) n ||| BitVec.ofInt (IntKind.bits .i64) (IntKind.i64.wrap ((IntKind.i64.wrap (IntKind.u8.wrap (BitVec.ofInt (IntKind.bits .u8) ((b.getD i.toNat default).toNat : Int) &&& BitVec.ofInt (IntKind.bits .u8) 127).toNat)) * 2 ^ (min (IntKind.i64.wrap (7 * i)).toNat 64)))).toNat), (IntKind.i64.wrap (i + 1)), true)))
      else
        some (.inl ((IntKind.i64.wrap (BitVec.ofInt (IntKind.bits .i64) n ||| BitVec.ofInt (IntKind.bits .i64) (IntKind.i64.wrap ((IntKind.i64.wrap (IntKind.u8.wrap (BitVec.ofInt (IntKind.bits .u8) ((b.getD i.toNat default).toNat : Int) &&& BitVec.ofInt (IntKind.bits .u8) 127).toNat)) * 2 ^ (min (IntKind.i64.wrap (7 * i)).toNat 64)))).toNat), (IntKind.i64.wrap (i + 1))))
    else
      some (.inr (.inl ()))

/-- impl.ReadNumber -/
noncomputable def impl_ReadNumber (b : List UInt8) : Option (Int × Int × Bool) :=
  (whileE (impl_ReadNumber_l1 b) (0, 0)).bind fun y_6 =>
  match y_6 with
  | .inl y_6a =>
    some (0, 0, false)
  | .inr y_6b =>
    some (y_6b.1, y_6b.2.1, y_6b.2.2)

noncomputable def laws_eqByteS_l1 (a : List UInt8) (b : List UInt8) : Int → Option (Int ⊕ (Unit ⊕ Bool))
  | i =>
    if (decide (i < (a.length : Int))) then
      ck (ixOk i a.length) <|
      ck (ixOk i b.length) <|
      if (!(((a.getD i.toNat default).toNat : Int) == ((b.getD i.toNat default).toNat : Int))) then
        some (.inr (.inr false))
      else
        some (.inl (IntKind.i64.wrap (i + 1)))
    else
      some (.inr (.inl ()))

/-- laws.eqByteS -/
noncomputable def laws_eqByteS (a : List UInt8) (b : List UInt8) : Option Bool :=
  if (!((a.length : Int) == (b.length : Int))) then
    some false
  else
    (whileE (laws_eqByteS_l1 a b) 0).bind fun y_6 =>
    match y_6 with
    | .inl y_6a =>
      some true
    | .inr y_6b =>
      some y_6b

/-- laws.FnExactReadNumber -/
noncomputable def laws_FnExactReadNumber (aB : List UInt8) : Option Bool :=
  if (decide (1048576 < (aB.length : Int))) then
    some true
  else
    (laws_toByteS aB).bind fun y_2 =>
    (spec_ReadNumber y_2).bind fun y_3 =>
    (impl_ReadNumber y_2).bind fun y_4 =>
    if (((!(y_4.1 == y_3.1)) || (!(y_4.2.1 == y_3.2.1))) || (!(y_4.2.2 == y_3.2.2))) then
      some false
    else
      (laws_eqByteS y_2 y_2).bind fun y_6 =>
      if (!y_6) then
        some false
      else
        some true

/-- laws.szEntry -/
noncomputable def laws_szEntry (a : Entry) (left_ : Int) : Option Int :=
  if (decide ((IntKind.i64.wrap (left_ - (a.What.length : Int))) < 0)) then
    some (-1)
  else
    some (IntKind.i64.wrap (left_ - (a.What.length : Int)))

/-- laws.toEntry -/
noncomputable def laws_toEntry (a : Entry) : Option Entry :=
  some a

/-- spec.l27Day -/
noncomputable def spec_l27Day (n : Int) : Option Bool :=
  (spec_l00In n 0 100000).bind fun y_1 =>
  some y_1

/-- spec.l01Small -/
noncomputable def spec_l01Small (c : UInt8) : Option Bool :=
  some ((decide (97 ≤ (c.toNat : Int))) && (decide ((c.toNat : Int) ≤ 122)))

/-- spec.l01Digit -/
noncomputable def spec_l01Digit (c : UInt8) : Option Bool :=
  some ((decide (48 ≤ (c.toNat : Int))) && (decide ((c.toNat : Int) ≤ 57)))

noncomputable def spec_IsName_l1 (s_ : List UInt8) : Int → Option (Int ⊕ (Unit ⊕ Bool))
  | i =>
    if (decide (i < (s_.length : Int))) then
      ck (ixOk i s_.length) <|
      (spec_l01Small (s_.getD i.toNat 0)).bind fun y_6 =>
      ck (!(!y_6) || (spec_l01Digit (s_.getD i.toNat 0)).isSome) <|
      if (((!y_6) && (!((spec_l01Digit (s_.getD i.toNat 0)).getD default))) && (!(((s_.getD i.toNat 0).toNat : Int) == 45))) then
        some (.inr (.inr false))
      else
        some (.inl (IntKind.i64.wrap (i + 1)))
    else
      some (.inr (.inl ()))

/-- spec.IsName -/
noncomputable def spec_IsName (s_ : List UInt8) : Option Bool :=
  ck (!(!((s_ == ([] : List UInt8)) || (decide (12 < (s_.length : Int))))) || ixOk 0 s_.length) <|
  ck (!(!((s_ == ([] : List UInt8)) || (decide (12 < (s_.length : Int))))) || (spec_l01Small (s_.getD 0 0)).isSome) <|
  if (((s_ == ([] : List UInt8)) || (decide (12 < (s_.length : Int)))) || (!((spec_l01Small (s_.getD 0 0)).getD default))) then
    some false
  else
    (whileE (spec_IsName_l1 s_) 0).bind fun y_9 =>
    match y_9 with
    | .inl y_9a =>
      some true
    | .inr y_9b =>
      some y_9b

/-- spec.l27Ok -/
noncomputable def spec_l27Ok (e_ : Entry) : Option Bool :=
  (spec_l27Day e_.Day).bind fun y_1 =>
  ck (!y_1 || (spec_IsName e_.What).isSome) <|
  ck (!(y_1 && ((spec_IsName e_.What).getD default)) || (spec_l00In e_.Value (-1000000) 1000000).isSome) <|
  some ((y_1 && ((spec_IsName e_.What).getD default)) && ((spec_l00In e_.Value (-1000000) 1000000).getD default))

/-- spec.ValidEntry -/
noncomputable def spec_ValidEntry (e_ : Entry) : Option Bool :=
  (spec_l27Ok e_).bind fun y_1 =>
  some y_1

noncomputable def impl_IsName_l1 (s_ : List UInt8) (t15 : Int) : Int → Option (Int ⊕ (Unit ⊕ Bool))
  | t16 =>
    if (decide (t16 < t15)) then
      ck (ixOk t16 s_.length) <|
      if ((!((decide (97 ≤ ((s_.getD t16.toNat 0).toNat : Int))) && (decide (((s_.getD t16.toNat 0).toNat : Int) ≤ 122)))) && ((t16 == 0) || (!(((decide (48 ≤ ((s_.getD t16.toNat 0).toNat : Int))) && (decide (((s_.getD t16.toNat 0).toNat : Int) ≤ 57))) || (((s_.getD t16.toNat 0).toNat : Int) == 45))))) then
        some (.inr (.inr false))
      else
        some (.inl (IntKind.i64.wrap (t16 + 1)))
    else
      some (.inr (.inl ()))

/-- impl.IsName -/
noncomputable def impl_IsName (s_ : List UInt8) : Option Bool :=
  if ((decide ((s_.length : Int) < 1)) || (decide (12 < (s_.length : Int)))) then
    some false
  else
    (whileE (impl_IsName_l1 s_ (s_.length : Int)) 0).bind fun y_5 =>
    match y_5 with
    | .inl y_5a =>
      some true
    | .inr y_5b =>
      some y_5b

/-- impl.ValidEntry -/
noncomputable def impl_ValidEntry (e_ : Entry) : Option Bool :=
  (impl_in e_.Day 0 100000).bind fun y_1 =>
  ck (!y_1 || (impl_IsName e_.What).isSome) <|
  ck (!(y_1 && ((impl_IsName e_.What).getD default)) || (impl_in e_.Value (-1000000) 1000000).isSome) <|
  some ((y_1 && ((impl_IsName e_.What).getD default)) && ((impl_in e_.Value (-1000000) 1000000).getD default))

/-- laws.FnExactValidEntry -/
noncomputable def laws_FnExactValidEntry (aE : Entry) : Option Bool :=
  (laws_szEntry aE 1048576).bind fun y_1 =>
  if (decide (y_1 < 0)) then
    some true
  else
    (laws_toEntry aE).bind fun y_3 =>
    (spec_ValidEntry y_3).bind fun y_4 =>
    (impl_ValidEntry y_3).bind fun y_5 =>
    if (!(y_5 == y_4)) then
      some false
    else
      some true

end Go.Proofs.Ytkapngmboghaeaa
