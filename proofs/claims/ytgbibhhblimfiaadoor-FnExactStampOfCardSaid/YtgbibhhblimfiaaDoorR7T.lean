/- Typed forms of the functions that R7 reaches. No condition. -/
import Derived.Test.YtgbibhhblimfiaaDoorEngSH
namespace Go.Proofs.YtgbibhhblimfiaaDoor
open Go Go.RowKit
set_option linter.unusedVariables false

structure Fault where
  Index : Int
  Kind : Int
  deriving Inhabited, DecidableEq
def Fault_av (x : Fault) : AV := .agg ([.int .i64 x.Index, .int .i64 x.Kind])

structure Entry where
  Day : Int
  What : List UInt8
  Value : Int
  deriving Inhabited, DecidableEq
def Entry_av (x : Entry) : AV := .agg ([.int .i64 x.Day, .str x.What, .int .i64 x.Value])

attribute [go_sem] Fault_av Entry_av

/-- laws.toFault -/
noncomputable def laws_toFault (a : Fault) : Option Fault :=
  some a

/-- spec.l00In -/
noncomputable def spec_l00In (n : Int) (low : Int) (high : Int) : Option Bool :=
  some ((decide (low ≤ n)) && (decide (n ≤ high)))

/-- spec.l26Kind -/
noncomputable def spec_l26Kind (n : Int) : Option Bool :=
  (spec_l00In n 1 5).bind fun y_1 =>
  some y_1

noncomputable def spec_l26Faults_l1 (faults : List Fault) (count : Int) : Int → Option (Int ⊕ (Unit ⊕ Bool))
  | i =>
    if (decide (i < (faults.length : Int))) then
      ck (ixOk i faults.length) <|
      (spec_l00In ((faults.getD i.toNat default).Index) 0 (IntKind.i64.wrap (count - 1))).bind fun y_3 =>
      ck (!(!(!y_3)) || (spec_l26Kind ((faults.getD i.toNat default).Kind)).isSome) <|
      if ((!y_3) || (!((spec_l26Kind ((faults.getD i.toNat default).Kind)).getD default))) then
        some (.inr (.inr false))
      else
        ck (!(decide (0 < i)) || ixOk (IntKind.i64.wrap (i - 1)) faults.length) <|
        ck (!((decide (0 < i)) && !(decide (((faults.getD i.toNat default).Index) < ((faults.getD (IntKind.i64.wrap (i - 1)).toNat default).Index)))) || ixOk (IntKind.i64.wrap (i - 1)) faults.length) <|
        ck (!(((decide (0 < i)) && !(decide (((faults.getD i.toNat default).Index) < ((faults.getD (IntKind.i64.wrap (i - 1)).toNat default).Index)))) && (((faults.getD (IntKind.i64.wrap (i - 1)).toNat default).Index) == ((faults.getD i.toNat default).Index))) || ixOk (IntKind.i64.wrap (i - 1)) faults.length) <|
        if ((decide (0 < i)) && ((decide (((faults.getD i.toNat default).Index) < ((faults.getD (IntKind.i64.wrap (i - 1)).toNat default).Index))) || ((((faults.getD (IntKind.i64.wrap (i - 1)).toNat default).Index) == ((faults.getD i.toNat default).Index)) && (decide (((faults.getD i.toNat default).Kind) ≤ ((faults.getD (IntKind.i64.wrap (i - 1)).toNat default).Kind)))))) then
          some (.inr (.inr false))
        else
          some (.inl (IntKind.i64.wrap (i + 1)))
    else
      some (.inr (.inl ()))

/-- spec.l26Faults -/
noncomputable def spec_l26Faults (faults : List Fault) (count : Int) : Option Bool :=
  (whileE (spec_l26Faults_l1 faults count) 0).bind fun y_10 =>
  match y_10 with
  | .inl y_10a =>
    some true
  | .inr y_10b =>
    some y_10b

noncomputable def spec_l01Dec_l1 (n : Int) : ((List UInt8) × Int) → Option (((List UInt8) × Int) ⊕ (List UInt8))
  | (out, k) =>
    if (!(k == 0)) then
      ck (nz 10) <|
      if (decide ((k.tmod 10) < 0)) then
        ck (appOk (([(toU8 (IntKind.u8.wrap (IntKind.i64.wrap (48 + (IntKind.i64.wrap (0 - (k.tmod 10)))))))] : List UInt8).length + out.length) 1) <|
        some (.inl ((([(toU8 (IntKind.u8.wrap (IntKind.i64.wrap (48 + (IntKind.i64.wrap (0 - (k.tmod 10)))))))] : List UInt8) ++ out), (IntKind.i64.wrap (k.tdiv 10))))
      else
        ck (appOk (([(toU8 (IntKind.u8.wrap (IntKind.i64.wrap (48 + (k.tmod 10)))))] : List UInt8).length + out.length) 1) <|
        some (.inl ((([(toU8 (IntKind.u8.wrap (IntKind.i64.wrap (48 + (k.tmod 10)))))] : List UInt8) ++ out), (IntKind.i64.wrap (k.tdiv 10))))
    else
      some (.inr out)

/-- spec.l01Dec -/
noncomputable def spec_l01Dec (n : Int) : Option (List UInt8) :=
  (whileE (spec_l01Dec_l1 n) (([] : List UInt8), n)).bind fun y_6 =>
  if ((y_6.length : Int) == 0) then
    some ([48] : List UInt8)
  else
    if (decide (n < 0)) then
      ck (catOk ([45] : List UInt8).length y_6.length) <|
      some (([45] : List UInt8) ++ y_6)
    else
      some y_6

/-- spec.l26Names -/
noncomputable def spec_l26Names  : Option (List (List UInt8)) :=
  some ([([115, 116, 97, 114] : List UInt8), ([111, 98, 115, 101, 114, 118, 101, 114] : List UInt8), ([98, 114, 105, 103, 104, 116] : List UInt8), ([102, 97, 105, 110, 116] : List UInt8), ([116, 119, 105, 110] : List UInt8)] : List (List UInt8))

/-- spec.l26Text -/
noncomputable def spec_l26Text (x : Fault) : Option (List UInt8) :=
  (spec_l01Dec x.Index).bind fun y_1 =>
  ck (catOk y_1.length ([32] : List UInt8).length) <|
  (spec_l26Names).bind fun y_3 =>
  ck (ixOk (IntKind.i64.wrap (x.Kind - 1)) y_3.length) <|
  ck (catOk (y_1 ++ ([32] : List UInt8)).length (y_3.getD (IntKind.i64.wrap (x.Kind - 1)).toNat default).length) <|
  some ((y_1 ++ ([32] : List UInt8)) ++ (y_3.getD (IntKind.i64.wrap (x.Kind - 1)).toNat default))

/-- spec.FaultText -/
noncomputable def spec_FaultText (x : Fault) : Option (List UInt8) :=
  (spec_l26Faults ([x] : List Fault) 100).bind fun y_1 =>
  if (!y_1) then
    some ([] : List UInt8)
  else
    (spec_l26Text x).bind fun y_3 =>
    some y_3


/-- strconv.FormatInt -/
noncomputable def strconv_FormatInt (i : Int) (base : Int) : Option (List UInt8) :=
  (hFmt i base).bind fun y_1 =>
  some y_1

/-- impl.Decimal -/
noncomputable def impl_Decimal (n : Int) : Option (List UInt8) :=
  (strconv_FormatInt n 10).bind fun y_1 =>
  some y_1

/-- impl.in -/
noncomputable def impl_in (n : Int) (low : Int) (high : Int) : Option Bool :=
  some ((decide (low ≤ n)) && (decide (n ≤ high)))

/-- impl.faultNames -/
noncomputable def impl_faultNames  : Option (List (List UInt8)) :=
  some ([([115, 116, 97, 114] : List UInt8), ([111, 98, 115, 101, 114, 118, 101, 114] : List UInt8), ([98, 114, 105, 103, 104, 116] : List UInt8), ([102, 97, 105, 110, 116] : List UInt8), ([116, 119, 105, 110] : List UInt8)] : List (List UInt8))

/-- impl.FaultName -/
noncomputable def impl_FaultName (kind : Int) : Option (List UInt8) :=
  (impl_in kind 1 5).bind fun y_1 =>
  if (!y_1) then
    some ([] : List UInt8)
  else
    (impl_faultNames).bind fun y_3 =>
    ck (ixOk (IntKind.i64.wrap (kind - 1)) y_3.length) <|
    some (y_3.getD (IntKind.i64.wrap (kind - 1)).toNat default)

noncomputable def impl_ordered_l1 (faults : List Fault) (estimates : Int) (t7 : List Fault) (t8 : Int) : Int → Option (Int ⊕ (Unit ⊕ Bool))
  | t9 =>
    if (decide (t9 < t8)) then
      ck (ixOk t9 t7.length) <|
      (impl_in ((t7.getD t9.toNat default).Index) 0 (IntKind.i64.wrap (estimates - 1))).bind fun y_3 =>
      ck (!(!(!y_3)) || (impl_in ((t7.getD t9.toNat default).Kind) 1 5).isSome) <|
      if ((!y_3) || (!((impl_in ((t7.getD t9.toNat default).Kind) 1 5).getD default))) then
        some (.inr (.inr false))
      else
        ck (!(decide (0 < t9)) || ixOk (IntKind.i64.wrap (t9 - 1)) faults.length) <|
        ck (!((decide (0 < t9)) && !(decide (((t7.getD t9.toNat default).Index) < ((faults.getD (IntKind.i64.wrap (t9 - 1)).toNat default).Index)))) || ixOk (IntKind.i64.wrap (t9 - 1)) faults.length) <|
        ck (!(((decide (0 < t9)) && !(decide (((t7.getD t9.toNat default).Index) < ((faults.getD (IntKind.i64.wrap (t9 - 1)).toNat default).Index)))) && (((faults.getD (IntKind.i64.wrap (t9 - 1)).toNat default).Index) == ((t7.getD t9.toNat default).Index))) || ixOk (IntKind.i64.wrap (t9 - 1)) faults.length) <|
        if ((decide (0 < t9)) && ((decide (((t7.getD t9.toNat default).Index) < ((faults.getD (IntKind.i64.wrap (t9 - 1)).toNat default).Index))) || ((((faults.getD (IntKind.i64.wrap (t9 - 1)).toNat default).Index) == ((t7.getD t9.toNat default).Index)) && (decide (((t7.getD t9.toNat default).Kind) ≤ ((faults.getD (IntKind.i64.wrap (t9 - 1)).toNat default).Kind)))))) then
          some (.inr (.inr false))
        else
          some (.inl (IntKind.i64.wrap (t9 + 1)))
    else
      some (.inr (.inl ()))

/-- impl.ordered -/
noncomputable def impl_ordered (faults : List Fault) (estimates : Int) : Option Bool :=
  (whileE (impl_ordered_l1 faults estimates faults (faults.length : Int)) 0).bind fun y_10 =>
  match y_10 with
  | .inl y_10a =>
    some true
  | .inr y_10b =>
    some y_10b

/-- impl.FaultText -/
noncomputable def impl_FaultText (x : Fault) : Option (List UInt8) :=
  (impl_ordered ([x] : List Fault) 100).bind fun y_1 =>
  if (!y_1) then
    some ([] : List UInt8)
  else
    (impl_Decimal x.Index).bind fun y_3 =>
    ck (catOk y_3.length ([32] : List UInt8).length) <|
    (impl_FaultName x.Kind).bind fun y_5 =>
    ck (catOk (y_3 ++ ([32] : List UInt8)).length y_5.length) <|
    some ((y_3 ++ ([32] : List UInt8)) ++ y_5)

/-- laws.FnExactFaultText -/
noncomputable def laws_FnExactFaultText (aX : Fault) : Option Bool :=
  (laws_toFault aX).bind fun y_1 =>
  (spec_FaultText y_1).bind fun y_2 =>
  (impl_FaultText y_1).bind fun y_3 =>
  if (!(y_3 == y_2)) then
    some false
  else
    some true

/-- laws.szEntry -/
noncomputable def laws_szEntry (a : Entry) (left_ : Int) : Option Int :=
  if (decide ((IntKind.i64.wrap (left_ - (a.What.length : Int))) < 0)) then
    some (-1)
  else
    some (IntKind.i64.wrap (left_ - (a.What.length : Int)))

/-- laws.toEntry -/
noncomputable def laws_toEntry (a : Entry) : Option Entry :=
  some a

/-- spec.l27Day -/
noncomputable def spec_l27Day (n : Int) : Option Bool :=
  (spec_l00In n 0 100000).bind fun y_1 =>
  some y_1

/-- spec.l01Small -/
noncomputable def spec_l01Small (c : UInt8) : Option Bool :=
  some ((decide (97 ≤ (c.toNat : Int))) && (decide ((c.toNat : Int) ≤ 122)))

/-- spec.l01Digit -/
noncomputable def spec_l01Digit (c : UInt8) : Option Bool :=
  some ((decide (48 ≤ (c.toNat : Int))) && (decide ((c.toNat : Int) ≤ 57)))

noncomputable def spec_IsName_l1 (s_ : List UInt8) : Int → Option (Int ⊕ (Unit ⊕ Bool))
  | i =>
    if (decide (i < (s_.length : Int))) then
      ck (ixOk i s_.length) <|
      (spec_l01Small (s_.getD i.toNat 0)).bind fun y_6 =>
      ck (!(!y_6) || (spec_l01Digit (s_.getD i.toNat 0)).isSome) <|
      if (((!y_6) && (!((spec_l01Digit (s_.getD i.toNat 0)).getD default))) && (!(((s_.getD i.toNat 0).toNat : Int) == 45))) then
        some (.inr (.inr false))
      else
        some (.inl (IntKind.i64.wrap (i + 1)))
    else
      some (.inr (.inl ()))

/-- spec.IsName -/
noncomputable def spec_IsName (s_ : List UInt8) : Option Bool :=
  ck (!(!((s_ == ([] : List UInt8)) || (decide (12 < (s_.length : Int))))) || ixOk 0 s_.length) <|
  ck (!(!((s_ == ([] : List UInt8)) || (decide (12 < (s_.length : Int))))) || (spec_l01Small (s_.getD 0 0)).isSome) <|
  if (((s_ == ([] : List UInt8)) || (decide (12 < (s_.length : Int)))) || (!((spec_l01Small (s_.getD 0 0)).getD default))) then
    some false
  else
    (whileE (spec_IsName_l1 s_) 0).bind fun y_9 =>
    match y_9 with
    | .inl y_9a =>
      some true
    | .inr y_9b =>
      some y_9b

/-- spec.l27Ok -/
noncomputable def spec_l27Ok (e_ : Entry) : Option Bool :=
  (spec_l27Day e_.Day).bind fun y_1 =>
  ck (!y_1 || (spec_IsName e_.What).isSome) <|
  ck (!(y_1 && ((spec_IsName e_.What).getD default)) || (spec_l00In e_.Value (-1000000) 1000000).isSome) <|
  some ((y_1 && ((spec_IsName e_.What).getD default)) && ((spec_l00In e_.Value (-1000000) 1000000).getD default))

/-- spec.l27Words -/
noncomputable def spec_l27Words (e_ : Entry) : Option (List UInt8) :=
  (spec_l01Dec e_.Day).bind fun y_1 =>
  ck (catOk y_1.length ([32] : List UInt8).length) <|
  ck (catOk (y_1 ++ ([32] : List UInt8)).length e_.What.length) <|
  ck (catOk ((y_1 ++ ([32] : List UInt8)) ++ e_.What).length ([32] : List UInt8).length) <|
  (spec_l01Dec e_.Value).bind fun y_5 =>
  ck (catOk (((y_1 ++ ([32] : List UInt8)) ++ e_.What) ++ ([32] : List UInt8)).length y_5.length) <|
  some ((((y_1 ++ ([32] : List UInt8)) ++ e_.What) ++ ([32] : List UInt8)) ++ y_5)

noncomputable def spec_l27Stamp_l1 (words : List UInt8) : (Int × Int) → Option ((Int × Int) ⊕ Int)
  | (sum, i) =>
    if (decide (i < (words.length : Int))) then
      ck (ixOk i words.length) <|
      ck (nz 65521) <|
      some (.inl (((IntKind.i64.wrap ((IntKind.i64.wrap (31 * sum)) + ((words.getD i.toNat 0).toNat : Int))).tmod 65521), (IntKind.i64.wrap (i + 1))))
    else
      some (.inr sum)

/-- spec.l27Stamp -/
noncomputable def spec_l27Stamp (before : Int) (words : List UInt8) : Option Int :=
  ck (nz 65521) <|
  (whileE (spec_l27Stamp_l1 words) (((IntKind.i64.wrap (before + 23)).tmod 65521), 0)).bind fun y_5 =>
  some y_5

/-- spec.StampOf -/
noncomputable def spec_StampOf (before : Int) (e_ : Entry) : Option (Int × Int) :=
  (spec_l27Ok e_).bind fun y_1 =>
  if (!y_1) then
    some (0, 1)
  else
    (spec_l00In before 0 65520).bind fun y_3 =>
    if (!y_3) then
      some (0, 2)
    else
      (spec_l27Words e_).bind fun y_5 =>
      (spec_l27Stamp before y_5).bind fun y_6 =>
      some (y_6, 0)

noncomputable def impl_IsName_l1 (s_ : List UInt8) (t15 : Int) : Int → Option (Int ⊕ (Unit ⊕ Bool))
  | t16 =>
    if (decide (t16 < t15)) then
      ck (ixOk t16 s_.length) <|
      if ((!((decide (97 ≤ ((s_.getD t16.toNat 0).toNat : Int))) && (decide (((s_.getD t16.toNat 0).toNat : Int) ≤ 122)))) && ((t16 == 0) || (!(((decide (48 ≤ ((s_.getD t16.toNat 0).toNat : Int))) && (decide (((s_.getD t16.toNat 0).toNat : Int) ≤ 57))) || (((s_.getD t16.toNat 0).toNat : Int) == 45))))) then
        some (.inr (.inr false))
      else
        some (.inl (IntKind.i64.wrap (t16 + 1)))
    else
      some (.inr (.inl ()))

/-- impl.IsName -/
noncomputable def impl_IsName (s_ : List UInt8) : Option Bool :=
  if ((decide ((s_.length : Int) < 1)) || (decide (12 < (s_.length : Int)))) then
    some false
  else
    (whileE (impl_IsName_l1 s_ (s_.length : Int)) 0).bind fun y_5 =>
    match y_5 with
    | .inl y_5a =>
      some true
    | .inr y_5b =>
      some y_5b

/-- impl.ValidEntry -/
noncomputable def impl_ValidEntry (e_ : Entry) : Option Bool :=
  (impl_in e_.Day 0 100000).bind fun y_1 =>
  ck (!y_1 || (impl_IsName e_.What).isSome) <|
  ck (!(y_1 && ((impl_IsName e_.What).getD default)) || (impl_in e_.Value (-1000000) 1000000).isSome) <|
  some ((y_1 && ((impl_IsName e_.What).getD default)) && ((impl_in e_.Value (-1000000) 1000000).getD default))

/-- (impl.Entry).words -/
noncomputable def impl_Entry_words (e_ : Entry) : Option (List UInt8) :=
  (impl_Decimal e_.Day).bind fun y_1 =>
  ck (catOk y_1.length ([32] : List UInt8).length) <|
  ck (catOk (y_1 ++ ([32] : List UInt8)).length e_.What.length) <|
  ck (catOk ((y_1 ++ ([32] : List UInt8)) ++ e_.What).length ([32] : List UInt8).length) <|
  (impl_Decimal e_.Value).bind fun y_5 =>
  ck (catOk (((y_1 ++ ([32] : List UInt8)) ++ e_.What) ++ ([32] : List UInt8)).length y_5.length) <|
  some ((((y_1 ++ ([32] : List UInt8)) ++ e_.What) ++ ([32] : List UInt8)) ++ y_5)

noncomputable def impl_stamp_l1 (words : List UInt8) (t14 : Int) : (Int × Int) → Option ((Int × Int) ⊕ Int)
  | (sum, t15) =>
    if (decide (t15 < t14)) then
      ck (ixOk t15 words.length) <|
      ck (nz 65521) <|
      some (.inl (((IntKind.i64.wrap ((IntKind.i64.wrap (31 * sum)) + ((words.getD t15.toNat 0).toNat : Int))).tmod 65521), (IntKind.i64.wrap (t15 + 1))))
    else
      some (.inr sum)

/-- impl.stamp -/
noncomputable def impl_stamp (before : Int) (e_ : Entry) : Option Int :=
  ck (nz 65521) <|
  (impl_Entry_words e_).bind fun y_2 =>
  (whileE (impl_stamp_l1 y_2 (y_2.length : Int)) (((IntKind.i64.wrap (before + 23)).tmod 65521), 0)).bind fun y_6 =>
  some y_6

/-- impl.StampOf -/
noncomputable def impl_StampOf (before : Int) (e_ : Entry) : Option (Int × Int) :=
  (impl_ValidEntry e_).bind fun y_1 =>
  if (!y_1) then
    some (0, 1)
  else
    (impl_in before 0 65520).bind fun y_3 =>
    if (!y_3) then
      some (0, 2)
    else
      (impl_stamp before e_).bind fun y_5 =>
      some (y_5, 0)

/-- laws.FnExactStampOf -/
noncomputable def laws_FnExactStampOf (aBefore : Int) (aE : Entry) : Option Bool :=
  (laws_szEntry aE 1048576).bind fun y_1 =>
  if (decide (y_1 < 0)) then
    some true
  else
    (laws_toEntry aE).bind fun y_3 =>
    (spec_StampOf aBefore y_3).bind fun y_4 =>
    (impl_StampOf aBefore y_3).bind fun y_5 =>
    if ((!(y_5.1 == y_4.1)) || (!(y_5.2 == y_4.2))) then
      some false
    else
      some true

end Go.Proofs.YtgbibhhblimfiaaDoor
