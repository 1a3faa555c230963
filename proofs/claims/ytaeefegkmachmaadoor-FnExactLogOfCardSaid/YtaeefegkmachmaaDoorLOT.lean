/- Typed forms of the functions that LO reaches. No condition. -/
import Derived.Test.YtaeefegkmachmaaDoorEngSH
namespace Go.Proofs.YtaeefegkmachmaaDoor
open Go Go.RowKit
set_option linter.unusedVariables false

structure Entry where
  Day : Int
  What : List UInt8
  Value : Int
  deriving Inhabited, DecidableEq
def Entry_av (x : Entry) : AV := .agg ([.int .i64 x.Day, .str x.What, .int .i64 x.Value])

attribute [go_sem] Entry_av

/-- laws.szEntry -/
noncomputable def laws_szEntry (a : Entry) (left_ : Int) : Option Int :=
  if (decide ((IntKind.i64.wrap (left_ - (a.What.length : Int))) < 0)) then
    some (-1)
  else
    some (IntKind.i64.wrap (left_ - (a.What.length : Int)))

noncomputable def laws_szEntryS_l1 (a : List Entry) : (Int × Int) → Option ((Int × Int) ⊕ (Int ⊕ Int))
  | (left_, i) =>
    if (decide (i < (a.length : Int))) then
      ck (ixOk i a.length) <|
      (laws_szEntry (a.getD i.toNat default) left_).bind fun y_4 =>
      if (decide (y_4 < 0)) then
        some (.inr (.inr (-1)))
      else
        some (.inl (y_4, (IntKind.i64.wrap (i + 1))))
    else
      some (.inr (.inl left_))

/-- laws.szEntryS -/
noncomputable def laws_szEntryS (a : List Entry) (left_ : Int) : Option Int :=
  if (decide ((IntKind.i64.wrap (left_ - (a.length : Int))) < 0)) then
    some (-1)
  else
    (whileE (laws_szEntryS_l1 a) ((IntKind.i64.wrap (left_ - (a.length : Int))), 0)).bind fun y_6 =>
    match y_6 with
    | .inl y_6a =>
      some y_6a
    | .inr y_6b =>
      some y_6b

/-- laws.toEntry -/
noncomputable def laws_toEntry (a : Entry) : Option Entry :=
  some a

noncomputable def laws_toEntryS_l1 (a : List Entry) : ((List Entry) × Int) → Option (((List Entry) × Int) ⊕ (List Entry))
  | (out, i) =>
    if (decide (i < (a.length : Int))) then
      ck (ixOk i a.length) <|
      (laws_toEntry (a.getD i.toNat default)).bind fun y_4 =>
      ck (ixOk i out.length) <|
      some (.inl ((out.set i.toNat y_4), (IntKind.i64.wrap (i + 1))))
    else
      some (.inr out)

/-- laws.toEntryS -/
noncomputable def laws_toEntryS (a : List Entry) : Option (List Entry) :=
  ck (mkOk (a.length : Int) 32) <|
  (whileE (laws_toEntryS_l1 a) ((List.replicate (a.length : Int).toNat (Entry.mk 0 [] 0)), 0)).bind fun y_6 =>
  some y_6

/-- spec.l00In -/
noncomputable def spec_l00In (n : Int) (low : Int) (high : Int) : Option Bool :=
  some ((decide (low ≤ n)) && (decide (n ≤ high)))

/-- spec.l27Day -/
noncomputable def spec_l27Day (n : Int) : Option Bool :=
  (spec_l00In n 0 100000).bind fun y_1 =>
  some y_1

/-- spec.l01Small -/
noncomputable def spec_l01Small (c : UInt8) : Option Bool :=
  some ((decide (97 ≤ (c.toNat : Int))) && (decide ((c.toNat : Int) ≤ 122)))

/-- spec.l01Digit -/
noncomputable def spec_l01Digit (c : UInt8) : Option Bool :=
  some ((decide (48 ≤ (c.toNat : Int))) && (decide ((c.toNat : Int) ≤ 57)))

noncomputable def spec_IsName_l1 (s_ : List UInt8) : Int → Option (Int ⊕ (Unit ⊕ Bool))
  | i =>
    if (decide (i < (s_.length : Int))) then
      ck (ixOk i s_.length) <|
      (spec_l01Small (s_.getD i.toNat 0)).bind fun y_6 =>
      ck (!(!y_6) || (spec_l01Digit (s_.getD i.toNat 0)).isSome) <|
      if (((!y_6) && (!((spec_l01Digit (s_.getD i.toNat 0)).getD default))) && (!(((s_.getD i.toNat 0).toNat : Int) == 45))) then
        some (.inr (.inr false))
      else
        some (.inl (IntKind.i64.wrap (i + 1)))
    else
      some (.inr (.inl ()))

/-- spec.IsName -/
noncomputable def spec_IsName (s_ : List UInt8) : Option Bool :=
  ck (!(!((s_ == ([] : List UInt8)) || (decide (12 < (s_.length : Int))))) || ixOk 0 s_.length) <|
  ck (!(!((s_ == ([] : List UInt8)) || (decide (12 < (s_.length : Int))))) || (spec_l01Small (s_.getD 0 0)).isSome) <|
  if (((s_ == ([] : List UInt8)) || (decide (12 < (s_.length : Int)))) || (!((spec_l01Small (s_.getD 0 0)).getD default))) then
    some false
  else
    (whileE (spec_IsName_l1 s_) 0).bind fun y_9 =>
    match y_9 with
    | .inl y_9a =>
      some true
    | .inr y_9b =>
      some y_9b

/-- spec.l27Ok -/
noncomputable def spec_l27Ok (e_ : Entry) : Option Bool :=
  (spec_l27Day e_.Day).bind fun y_1 =>
  ck (!y_1 || (spec_IsName e_.What).isSome) <|
  ck (!(y_1 && ((spec_IsName e_.What).getD default)) || (spec_l00In e_.Value (-1000000) 1000000).isSome) <|
  some ((y_1 && ((spec_IsName e_.What).getD default)) && ((spec_l00In e_.Value (-1000000) 1000000).getD default))

noncomputable def spec_l01Dec_l1 (n : Int) : ((List UInt8) × Int) → Option (((List UInt8) × Int) ⊕ (List UInt8))
  | (out, k) =>
    if (!(k == 0)) then
      ck (nz 10) <|
      if (decide ((k.tmod 10) < 0)) then
        ck (appOk (([(toU8 (IntKind.u8.wrap (IntKind.i64.wrap (48 + (IntKind.i64.wrap (0 - (k.tmod 10)))))))] : List UInt8).length + out.length) 1) <|
        some (.inl ((([(toU8 (IntKind.u8.wrap (IntKind.i64.wrap (48 + (IntKind.i64.wrap (0 - (k.tmod 10)))))))] : List UInt8) ++ out), (IntKind.i64.wrap (k.tdiv 10))))
      else
        ck (appOk (([(toU8 (IntKind.u8.wrap (IntKind.i64.wrap (48 + (k.tmod 10)))))] : List UInt8).length + out.length) 1) <|
        some (.inl ((([(toU8 (IntKind.u8.wrap (IntKind.i64.wrap (48 + (k.tmod 10)))))] : List UInt8) ++ out), (IntKind.i64.wrap (k.tdiv 10))))
    else
      some (.inr out)

/-- spec.l01Dec -/
noncomputable def spec_l01Dec (n : Int) : Option (List UInt8) :=
  (whileE (spec_l01Dec_l1 n) (([] : List UInt8), n)).bind fun y_6 =>
  if ((y_6.length : Int) == 0) then
    some ([48] : List UInt8)
  else
    if (decide (n < 0)) then
      ck (catOk ([45] : List UInt8).length y_6.length) <|
      some (([45] : List UInt8) ++ y_6)
    else
      some y_6

/-- spec.l27Words -/
noncomputable def spec_l27Words (e_ : Entry) : Option (List UInt8) :=
  (spec_l01Dec e_.Day).bind fun y_1 =>
  ck (catOk y_1.length ([32] : List UInt8).length) <|
  ck (catOk (y_1 ++ ([32] : List UInt8)).length e_.What.length) <|
  ck (catOk ((y_1 ++ ([32] : List UInt8)) ++ e_.What).length ([32] : List UInt8).length) <|
  (spec_l01Dec e_.Value).bind fun y_5 =>
  ck (catOk (((y_1 ++ ([32] : List UInt8)) ++ e_.What) ++ ([32] : List UInt8)).length y_5.length) <|
  some ((((y_1 ++ ([32] : List UInt8)) ++ e_.What) ++ ([32] : List UInt8)) ++ y_5)

noncomputable def spec_l27Stamp_l1 (words : List UInt8) : (Int × Int) → Option ((Int × Int) ⊕ Int)
  | (sum, i) =>
    if (decide (i < (words.length : Int))) then
      ck (ixOk i words.length) <|
      ck (nz 65521) <|
      some (.inl (((IntKind.i64.wrap ((IntKind.i64.wrap (31 * sum)) + ((words.getD i.toNat 0).toNat : Int))).tmod 65521), (IntKind.i64.wrap (i + 1))))
    else
      some (.inr sum)

/-- spec.l27Stamp -/
noncomputable def spec_l27Stamp (before : Int) (words : List UInt8) : Option Int :=
  ck (nz 65521) <|
  (whileE (spec_l27Stamp_l1 words) (((IntKind.i64.wrap (before + 23)).tmod 65521), 0)).bind fun y_5 =>
  some y_5

/-- spec.l27Line -/
noncomputable def spec_l27Line (stamp : Int) (e_ : Entry) : Option (List UInt8) :=
  (spec_l27Words e_).bind fun y_1 =>
  ck (catOk y_1.length ([32] : List UInt8).length) <|
  (spec_l01Dec stamp).bind fun y_3 =>
  ck (catOk (y_1 ++ ([32] : List UInt8)).length y_3.length) <|
  ck (catOk ((y_1 ++ ([32] : List UInt8)) ++ y_3).length ([10] : List UInt8).length) <|
  some (((y_1 ++ ([32] : List UInt8)) ++ y_3) ++ ([10] : List UInt8))

noncomputable def spec_l27Make_l1 (list : List Entry) : ((List UInt8) × Int × Int) → Option (((List UInt8) × Int × Int) ⊕ (List UInt8))
  | (out, stamp, i) =>
    if (decide (i < (list.length : Int))) then
      ck (ixOk i list.length) <|
      (spec_l27Words (list.getD i.toNat default)).bind fun y_3 =>
      (spec_l27Stamp stamp y_3).bind fun y_4 =>
      (spec_l27Line y_4 (list.getD i.toNat default)).bind fun y_5 =>
      ck (appOk (out.length + y_5.length) 1) <|
      some (.inl ((out ++ y_5), y_4, (IntKind.i64.wrap (i + 1))))
    else
      some (.inr out)

/-- spec.l27Make -/
noncomputable def spec_l27Make (list : List Entry) : Option (List UInt8) :=
  (whileE (spec_l27Make_l1 list) (([] : List UInt8), 0, 0)).bind fun y_7 =>
  some y_7

noncomputable def spec_LogOf_l1 (list : List Entry) : Int → Option (Int ⊕ (Unit ⊕ ((List UInt8) × Int)))
  | i =>
    if (decide (i < (list.length : Int))) then
      ck (ixOk i list.length) <|
      (spec_l27Ok (list.getD i.toNat default)).bind fun y_3 =>
      if (!y_3) then
        some (.inr (.inr (([] : List UInt8), 7)))
      else
        some (.inl (IntKind.i64.wrap (i + 1)))
    else
      some (.inr (.inl ()))

noncomputable def spec_LogOf_l2 (list : List Entry) : Int → Option (Int ⊕ (Unit ⊕ ((List UInt8) × Int)))
  | i =>
    if (decide (i < (list.length : Int))) then
      ck (ixOk i list.length) <|
      ck (ixOk (IntKind.i64.wrap (i - 1)) list.length) <|
      if (decide (((list.getD i.toNat default).Day) < ((list.getD (IntKind.i64.wrap (i - 1)).toNat default).Day))) then
        some (.inr (.inr (([] : List UInt8), 6)))
      else
        some (.inl (IntKind.i64.wrap (i + 1)))
    else
      some (.inr (.inl ()))

/-- spec.LogOf -/
noncomputable def spec_LogOf (list : List Entry) : Option ((List UInt8) × Int) :=
  (whileE (spec_LogOf_l1 list) 0).bind fun y_5 =>
  match y_5 with
  | .inl y_5a =>
    (whileE (spec_LogOf_l2 list) 1).bind fun y_10 =>
    match y_10 with
    | .inl y_10a =>
      (spec_l27Make list).bind fun y_11 =>
      if (decide (4000 < (y_11.length : Int))) then
        some (([] : List UInt8), 5)
      else
        some (y_11, 0)
    | .inr y_10b =>
      some (y_10b.1, y_10b.2)
  | .inr y_5b =>
    some (y_5b.1, y_5b.2)

/-- impl.in -/
noncomputable def impl_in (n : Int) (low : Int) (high : Int) : Option Bool :=
  some ((decide (low ≤ n)) && (decide (n ≤ high)))

noncomputable def impl_IsName_l1 (s_ : List UInt8) (t15 : Int) : Int → Option (Int ⊕ (Unit ⊕ Bool))
  | t16 =>
    if (decide (t16 < t15)) then
      ck (ixOk t16 s_.length) <|
      if ((!((decide (97 ≤ ((s_.getD t16.toNat 0).toNat : Int))) && (decide (((s_.getD t16.toNat 0).toNat : Int) ≤ 122)))) && ((t16 == 0) || (!(((decide (48 ≤ ((s_.getD t16.toNat 0).toNat : Int))) && (decide (((s_.getD t16.toNat 0).toNat : Int) ≤ 57))) || (((s_.getD t16.toNat 0).toNat : Int) == 45))))) then
        some (.inr (.inr false))
      else
        some (.inl (IntKind.i64.wrap (t16 + 1)))
    else
      some (.inr (.inl ()))

/-- impl.IsName -/
noncomputable def impl_IsName (s_ : List UInt8) : Option Bool :=
  if ((decide ((s_.length : Int) < 1)) || (decide (12 < (s_.length : Int)))) then
    some false
  else
    (whileE (impl_IsName_l1 s_ (s_.length : Int)) 0).bind fun y_5 =>
    match y_5 with
    | .inl y_5a =>
      some true
    | .inr y_5b =>
      some y_5b

/-- impl.ValidEntry -/
noncomputable def impl_ValidEntry (e_ : Entry) : Option Bool :=
  (impl_in e_.Day 0 100000).bind fun y_1 =>
  ck (!y_1 || (impl_IsName e_.What).isSome) <|
  ck (!(y_1 && ((impl_IsName e_.What).getD default)) || (impl_in e_.Value (-1000000) 1000000).isSome) <|
  some ((y_1 && ((impl_IsName e_.What).getD default)) && ((impl_in e_.Value (-1000000) 1000000).getD default))

/-- impl.LogOf$1 -/
noncomputable def impl_LogOf_c1 (e_ : Entry) : Option Bool :=
  (impl_ValidEntry e_).bind fun y_1 =>
  some (!y_1)

noncomputable def slices_IndexFunc_impl_Entry_impl_Entry__impl_LogOf_c1_l1 (s_ : List Entry) (t7 : Int) : Int → Option (Int ⊕ (Unit ⊕ Int))
  | t8 =>
    if (decide (t8 < t7)) then
      ck (ixOk t8 s_.length) <|
      (impl_LogOf_c1 (s_.getD t8.toNat default)).bind fun y_3 =>
      if y_3 then
        some (.inr (.inr t8))
      else
        some (.inl (IntKind.i64.wrap (t8 + 1)))
    else
      some (.inr (.inl ()))

/-- slices.IndexFunc[[]impl.Entry,impl.Entry] -/
noncomputable def slices_IndexFunc_impl_Entry_impl_Entry__impl_LogOf_c1 (s_ : List Entry) : Option Int :=
  (whileE (slices_IndexFunc_impl_Entry_impl_Entry__impl_LogOf_c1_l1 s_ (s_.length : Int)) 0).bind fun y_5 =>
  match y_5 with
  | .inl y_5a =>
    some (-1)
  | .inr y_5b =>
    some y_5b

/-- slices.ContainsFunc[[]impl.Entry,impl.Entry] -/
noncomputable def slices_ContainsFunc_impl_Entry_impl_Entry__impl_LogOf_c1 (s_ : List Entry) : Option Bool :=
  (slices_IndexFunc_impl_Entry_impl_Entry__impl_LogOf_c1 s_).bind fun y_1 =>
  some (decide (0 ≤ y_1))


/-- strconv.FormatInt -/
noncomputable def strconv_FormatInt (i : Int) (base : Int) : Option (List UInt8) :=
  (hFmt i base).bind fun y_1 =>
  some y_1

/-- impl.Decimal -/
noncomputable def impl_Decimal (n : Int) : Option (List UInt8) :=
  (strconv_FormatInt n 10).bind fun y_1 =>
  some y_1

/-- (impl.Entry).words -/
noncomputable def impl_Entry_words (e_ : Entry) : Option (List UInt8) :=
  (impl_Decimal e_.Day).bind fun y_1 =>
  ck (catOk y_1.length ([32] : List UInt8).length) <|
  ck (catOk (y_1 ++ ([32] : List UInt8)).length e_.What.length) <|
  ck (catOk ((y_1 ++ ([32] : List UInt8)) ++ e_.What).length ([32] : List UInt8).length) <|
  (impl_Decimal e_.Value).bind fun y_5 =>
  ck (catOk (((y_1 ++ ([32] : List UInt8)) ++ e_.What) ++ ([32] : List UInt8)).length y_5.length) <|
  some ((((y_1 ++ ([32] : List UInt8)) ++ e_.What) ++ ([32] : List UInt8)) ++ y_5)

noncomputable def impl_stamp_l1 (words : List UInt8) (t14 : Int) : (Int × Int) → Option ((Int × Int) ⊕ Int)
  | (sum, t15) =>
    if (decide (t15 < t14)) then
      ck (ixOk t15 words.length) <|
      ck (nz 65521) <|
      some (.inl (((IntKind.i64.wrap ((IntKind.i64.wrap (31 * sum)) + ((words.getD t15.toNat 0).toNat : Int))).tmod 65521), (IntKind.i64.wrap (t15 + 1))))
    else
      some (.inr sum)

/-- impl.stamp -/
noncomputable def impl_stamp (before : Int) (e_ : Entry) : Option Int :=
  ck (nz 65521) <|
  (impl_Entry_words e_).bind fun y_2 =>
  (whileE (impl_stamp_l1 y_2 (y_2.length : Int)) (((IntKind.i64.wrap (before + 23)).tmod 65521), 0)).bind fun y_6 =>
  some y_6

/-- impl.lineOf -/
noncomputable def impl_lineOf (e_ : Entry) (stamp : Int) : Option (List UInt8) :=
  (impl_Entry_words e_).bind fun y_1 =>
  ck (catOk y_1.length ([32] : List UInt8).length) <|
  (impl_Decimal stamp).bind fun y_3 =>
  ck (catOk (y_1 ++ ([32] : List UInt8)).length y_3.length) <|
  ck (catOk ((y_1 ++ ([32] : List UInt8)) ++ y_3).length ([10] : List UInt8).length) <|
  some (((y_1 ++ ([32] : List UInt8)) ++ y_3) ++ ([10] : List UInt8))

/-- impl.LogOf, by hand -/
noncomputable def impl_LogOf_d (list : List Entry) : Bool :=
  (List.range (list.length - 1)).any fun i => decide ((list.getD (i + 1) default).Day < (list.getD i default).Day)

noncomputable def impl_LogOf_l : List UInt8 → Int → List Entry → Option (Option (List UInt8))
  | acc, _, [] => some (some acc)
  | acc, last, e :: r =>
    (impl_stamp last e).bind fun z =>
    (impl_lineOf e z).bind fun t =>
    ck (decide (acc.length + t.length ≤ 140737488355328)) <|
    if decide (4000 < acc.length + t.length) = true then some none else impl_LogOf_l (acc ++ t) z r

noncomputable def impl_LogOf (list : List Entry) : Option (List UInt8 × Int) :=
  ck (decide (list.length ≤ 1099511627776)) <|
  (slices_ContainsFunc_impl_Entry_impl_Entry__impl_LogOf_c1 list).bind fun y =>
  if y then some ([], 7) else
  if impl_LogOf_d list then some ([], 6) else
  (impl_LogOf_l [] 0 list).bind fun z =>
  match z with
  | some t => some (t, 0)
  | none => some ([], 5)

/-- laws.eqEntry -/
noncomputable def laws_eqEntry (a : Entry) (b : Entry) : Option Bool :=
  if (!(a.Day == b.Day)) then
    some false
  else
    if (!(a.What == b.What)) then
      some false
    else
      if (!(a.Value == b.Value)) then
        some false
      else
        some true

noncomputable def laws_eqEntryS_l1 (a : List Entry) (b : List Entry) : Int → Option (Int ⊕ (Unit ⊕ Bool))
  | i =>
    if (decide (i < (a.length : Int))) then
      ck (ixOk i a.length) <|
      ck (ixOk i b.length) <|
      (laws_eqEntry (a.getD i.toNat default) (b.getD i.toNat default)).bind fun y_5 =>
      if (!y_5) then
        some (.inr (.inr false))
      else
        some (.inl (IntKind.i64.wrap (i + 1)))
    else
      some (.inr (.inl ()))

/-- laws.eqEntryS -/
noncomputable def laws_eqEntryS (a : List Entry) (b : List Entry) : Option Bool :=
  if (!((a.length : Int) == (b.length : Int))) then
    some false
  else
    (whileE (laws_eqEntryS_l1 a b) 0).bind fun y_7 =>
    match y_7 with
    | .inl y_7a =>
      some true
    | .inr y_7b =>
      some y_7b

/-- laws.FnExactLogOf -/
noncomputable def laws_FnExactLogOf (aList : List Entry) : Option Bool :=
  (laws_szEntryS aList 1048576).bind fun y_1 =>
  if (decide (y_1 < 0)) then
    some true
  else
    (laws_toEntryS aList).bind fun y_3 =>
    (spec_LogOf y_3).bind fun y_4 =>
    (impl_LogOf y_3).bind fun y_5 =>
    if ((!(y_5.1 == y_4.1)) || (!(y_5.2 == y_4.2))) then
      some false
    else
      (laws_eqEntryS y_3 y_3).bind fun y_7 =>
      if (!y_7) then
        some false
      else
        some true

end Go.Proofs.YtaeefegkmachmaaDoor
