/- Typed forms of the functions that LG reaches. No condition. -/
import Derived.Test.YtlcabohpeopdcaaGreatDoorEngSI
namespace Go.Proofs.YtlcabohpeopdcaaGreatDoor
open Go Go.RowKit
set_option linter.unusedVariables false

structure Entry where
  Day : Int
  What : List UInt8
  Value : Int
  deriving Inhabited, DecidableEq
def Entry_av (x : Entry) : AV := .agg ([.int .i64 x.Day, .str x.What, .int .i64 x.Value])

structure L00Src where
  code_ : List UInt8
  at_ : Int
  seed_ : Int
  deriving Inhabited, DecidableEq
def L00Src_av (x : L00Src) : AV := .agg ([.sl 1 (List.map byteAV x.code_), .int .i64 x.at_, .int .u64 x.seed_])

structure L27R where
  s_ : List UInt8
  at_ : Int
  stamp_ : Int
  list_ : List Entry
  deriving Inhabited, DecidableEq
def L27R_av (x : L27R) : AV := .agg ([.str x.s_, .int .i64 x.at_, .int .i64 x.stamp_, .sl 3 (List.map Entry_av x.list_)])

attribute [go_sem] Entry_av L00Src_av L27R_av

/-- laws.a2Long -/
noncomputable def laws_a2Long (code : List UInt8) (more : List UInt8) : Option Bool :=
  some ((decide (3000 < (code.length : Int))) || (decide (3000 < (more.length : Int))))

/-- spec.l00From -/
noncomputable def spec_l00From (code : List UInt8) : Option L00Src :=
  some (L00Src.mk code 0 0)

/-- (*spec.l00Src).next -/
noncomputable def spec_l00Src_next (s_ : L00Src) : Option (Int × L00Src) :=
  if (decide (s_.at_ < (s_.code_.length : Int))) then
    ck (ixOk s_.at_ s_.code_.length) <|
    if (decide ((IntKind.i64.wrap (s_.at_ + 1)) ≤ (s_.code_.length : Int))) then
      some (((s_.code_.getD s_.at_.toNat default).toNat : Int), (L00Src.mk s_.code_ (IntKind.i64.wrap (s_.at_ + 1)) (IntKind.u64.wrap ((IntKind.u64.wrap ((IntKind.u64.wrap (s_.seed_ * 6364136223846793005)) + (IntKind.u64.wrap ((s_.code_.getD s_.at_.toNat default).toNat : Int)))) + 1442695040888963407))))
    else
      ck (shOk 40) <|
      some ((IntKind.i64.wrap (IntKind.u64.wrap (BitVec.ofInt (IntKind.bits .u64) ((IntKind.u64.wrap ((IntKind.u64.wrap ((IntKind.u64.wrap (s_.seed_ * 6364136223846793005)) + (IntKind.u64.wrap ((s_.code_.getD s_.at_.toNat default).toNat : Int)))) + 1442695040888963407)).fdiv (2 ^ (min 40 64))) &&& BitVec.ofInt (IntKind.bits .u64) 255).toNat)), (L00Src.mk s_.code_ (IntKind.i64.wrap (s_.at_ + 1)) (IntKind.u64.wrap ((IntKind.u64.wrap ((IntKind.u64.wrap (s_.seed_ * 6364136223846793005)) + (IntKind.u64.wrap ((s_.code_.getD s_.at_.toNat default).toNat : Int)))) + 1442695040888963407))))
  else
    if (decide ((IntKind.i64.wrap (s_.at_ + 1)) ≤ (s_.code_.length : Int))) then
      some (0, (L00Src.mk s_.code_ (IntKind.i64.wrap (s_.at_ + 1)) (IntKind.u64.wrap ((IntKind.u64.wrap ((IntKind.u64.wrap (s_.seed_ * 6364136223846793005)) + (IntKind.u64.wrap 0))) + 1442695040888963407))))
    else
      ck (shOk 40) <|
      some ((IntKind.i64.wrap (IntKind.u64.wrap (BitVec.ofInt (IntKind.bits .u64) ((IntKind.u64.wrap ((IntKind.u64.wrap ((IntKind.u64.wrap (s_.seed_ * 6364136223846793005)) + (IntKind.u64.wrap 0))) + 1442695040888963407)).fdiv (2 ^ (min 40 64))) &&& BitVec.ofInt (IntKind.bits .u64) 255).toNat)), (L00Src.mk s_.code_ (IntKind.i64.wrap (s_.at_ + 1)) (IntKind.u64.wrap ((IntKind.u64.wrap ((IntKind.u64.wrap (s_.seed_ * 6364136223846793005)) + (IntKind.u64.wrap 0))) + 1442695040888963407))))

/-- (*spec.l00Src).pick -/
noncomputable def spec_l00Src_pick (s_ : L00Src) (n : Int) : Option (Int × L00Src) :=
  if (decide (n ≤ 1)) then
    some (0, s_)
  else
    (spec_l00Src_next s_).bind fun y_2 =>
    if (decide (200 < n)) then
      (spec_l00Src_next y_2.2).bind fun y_4 =>
      ck (nz n) <|
      some (((IntKind.i64.wrap ((IntKind.i64.wrap (y_2.1 * 256)) + y_4.1)).tmod n), y_4.2)
    else
      ck (nz n) <|
      some ((y_2.1.tmod n), y_2.2)

/-- (*spec.l00Src).text -/
noncomputable def spec_l00Src_text (s_ : L00Src) (list : List (List UInt8)) : Option ((List UInt8) × L00Src) :=
  (spec_l00Src_pick s_ (list.length : Int)).bind fun y_1 =>
  ck (ixOk y_1.1 list.length) <|
  some ((list.getD y_1.1.toNat default), y_1.2)

/-- (*spec.l00Src).among -/
noncomputable def spec_l00Src_among (s_ : L00Src) (list : List Int) : Option (Int × L00Src) :=
  (spec_l00Src_pick s_ (list.length : Int)).bind fun y_1 =>
  ck (ixOk y_1.1 list.length) <|
  some ((list.getD y_1.1.toNat default), y_1.2)

/-- spec.l27DrawEntry -/
noncomputable def spec_l27DrawEntry (s_ : L00Src) (day : Int) : Option (Entry × L00Src) :=
  (spec_l00Src_pick s_ 4).bind fun y_1 =>
  (spec_l00Src_text y_1.2 ([([115, 101, 101, 110] : List UInt8), ([104, 111, 117, 114, 115] : List UInt8), ([115, 116, 97, 114, 45, 51] : List UInt8), ([99, 108, 111, 117, 100, 115] : List UInt8)] : List (List UInt8))).bind fun y_2 =>
  (spec_l00Src_pick y_2.2 900).bind fun y_3 =>
  (spec_l00Src_pick y_3.2 24).bind fun y_4 =>
  if (y_4.1 == 0) then
    (spec_l00Src_among y_4.2 ([(-1), 0, 100000, 100001] : List Int)).bind fun y_6 =>
    some ((Entry.mk y_6.1 y_2.1 (IntKind.i64.wrap (y_3.1 - 200))), y_6.2)
  else
    if (y_4.1 == 1) then
      (spec_l00Src_text y_4.2 ([([] : List UInt8), ([83, 101, 101, 110] : List UInt8), ([97, 32, 98] : List UInt8)] : List (List UInt8))).bind fun y_8 =>
      some ((Entry.mk (IntKind.i64.wrap (day + y_1.1)) y_8.1 (IntKind.i64.wrap (y_3.1 - 200))), y_8.2)
    else
      if (y_4.1 == 2) then
        (spec_l00Src_among y_4.2 ([(-1000001), (-1000000), 1000000, 1000001, (-9223372036854775808)] : List Int)).bind fun y_10 =>
        some ((Entry.mk (IntKind.i64.wrap (day + y_1.1)) y_2.1 y_10.1), y_10.2)
      else
        some ((Entry.mk (IntKind.i64.wrap (day + y_1.1)) y_2.1 (IntKind.i64.wrap (y_3.1 - 200))), y_4.2)

/-- spec.l00In -/
noncomputable def spec_l00In (n : Int) (low : Int) (high : Int) : Option Bool :=
  some ((decide (low ≤ n)) && (decide (n ≤ high)))

/-- spec.l27Day -/
noncomputable def spec_l27Day (n : Int) : Option Bool :=
  (spec_l00In n 0 100000).bind fun y_1 =>
  some y_1

/-- spec.l01Small -/
noncomputable def spec_l01Small (c : UInt8) : Option Bool :=
  some ((decide (97 ≤ (c.toNat : Int))) && (decide ((c.toNat : Int) ≤ 122)))

/-- spec.l01Digit -/
noncomputable def spec_l01Digit (c : UInt8) : Option Bool :=
  some ((decide (48 ≤ (c.toNat : Int))) && (decide ((c.toNat : Int) ≤ 57)))

noncomputable def spec_IsName_l1 (s_ : List UInt8) : Int → Option (Int ⊕ (Unit ⊕ Bool))
  | i =>
    if (decide (i < (s_.length : Int))) then
      ck (ixOk i s_.length) <|
      (spec_l01Small (s_.getD i.toNat 0)).bind fun y_6 =>
      ck (!(!y_6) || (spec_l01Digit (s_.getD i.toNat 0)).isSome) <|
      if (((!y_6) && (!((spec_l01Digit (s_.getD i.toNat 0)).getD default))) && (!(((s_.getD i.toNat 0).toNat : Int) == 45))) then
        some (.inr (.inr false))
      else
        some (.inl (IntKind.i64.wrap (i + 1)))
    else
      some (.inr (.inl ()))

/-- spec.IsName -/
noncomputable def spec_IsName (s_ : List UInt8) : Option Bool :=
  ck (!(!((s_ == ([] : List UInt8)) || (decide (12 < (s_.length : Int))))) || ixOk 0 s_.length) <|
  ck (!(!((s_ == ([] : List UInt8)) || (decide (12 < (s_.length : Int))))) || (spec_l01Small (s_.getD 0 0)).isSome) <|
  if (((s_ == ([] : List UInt8)) || (decide (12 < (s_.length : Int)))) || (!((spec_l01Small (s_.getD 0 0)).getD default))) then
    some false
  else
    (whileE (spec_IsName_l1 s_) 0).bind fun y_9 =>
    match y_9 with
    | .inl y_9a =>
      some true
    | .inr y_9b =>
      some y_9b

/-- spec.l27Ok -/
noncomputable def spec_l27Ok (e_ : Entry) : Option Bool :=
  (spec_l27Day e_.Day).bind fun y_1 =>
  ck (!y_1 || (spec_IsName e_.What).isSome) <|
  ck (!(y_1 && ((spec_IsName e_.What).getD default)) || (spec_l00In e_.Value (-1000000) 1000000).isSome) <|
  some ((y_1 && ((spec_IsName e_.What).getD default)) && ((spec_l00In e_.Value (-1000000) 1000000).getD default))

noncomputable def spec_l27Entries_l1  : (L00Src × (List Entry) × Int × Int) → Option ((L00Src × (List Entry) × Int × Int) ⊕ (L00Src × (List Entry)))
  | (s_, out, day, k) =>
    if (decide (0 < k)) then
      (spec_l27DrawEntry s_ day).bind fun y_3 =>
      (spec_l27Ok y_3.1).bind fun y_4 =>
      if (y_4 && (decide (day ≤ y_3.1.Day))) then
        ck (appOk (out.length + ([y_3.1] : List Entry).length) 32) <|
        some (.inl (y_3.2, (out ++ ([y_3.1] : List Entry)), y_3.1.Day, (IntKind.i64.wrap (k - 1))))
      else
        some (.inl (y_3.2, out, day, (IntKind.i64.wrap (k - 1))))
    else
      some (.inr (s_, out))

/-- spec.l27Entries -/
noncomputable def spec_l27Entries (s_ : L00Src) (most : Int) : Option ((List Entry) × L00Src) :=
  (spec_l00Src_pick s_ (IntKind.i64.wrap (most + 1))).bind fun y_1 =>
  (whileE (spec_l27Entries_l1) (y_1.2, ([] : List Entry), 0, y_1.1)).bind fun y_7 =>
  some (y_7.2, y_7.1)

/-- spec.A2Entries -/
noncomputable def spec_A2Entries (code : List UInt8) : Option (List Entry) :=
  (spec_l00From code).bind fun y_1 =>
  (spec_l27Entries y_1 7).bind fun y_2 =>
  some y_2.1

/-- impl.in -/
noncomputable def impl_in (n : Int) (low : Int) (high : Int) : Option Bool :=
  some ((decide (low ≤ n)) && (decide (n ≤ high)))

noncomputable def impl_IsName_l1 (s_ : List UInt8) (t15 : Int) : Int → Option (Int ⊕ (Unit ⊕ Bool))
  | t16 =>
    if (decide (t16 < t15)) then
      ck (ixOk t16 s_.length) <|
      if ((!((decide (97 ≤ ((s_.getD t16.toNat 0).toNat : Int))) && (decide (((s_.getD t16.toNat 0).toNat : Int) ≤ 122)))) && ((t16 == 0) || (!(((decide (48 ≤ ((s_.getD t16.toNat 0).toNat : Int))) && (decide (((s_.getD t16.toNat 0).toNat : Int) ≤ 57))) || (((s_.getD t16.toNat 0).toNat : Int) == 45))))) then
        some (.inr (.inr false))
      else
        some (.inl (IntKind.i64.wrap (t16 + 1)))
    else
      some (.inr (.inl ()))

/-- impl.IsName -/
noncomputable def impl_IsName (s_ : List UInt8) : Option Bool :=
  if ((decide ((s_.length : Int) < 1)) || (decide (12 < (s_.length : Int)))) then
    some false
  else
    (whileE (impl_IsName_l1 s_ (s_.length : Int)) 0).bind fun y_5 =>
    match y_5 with
    | .inl y_5a =>
      some true
    | .inr y_5b =>
      some y_5b

/-- impl.ValidEntry -/
noncomputable def impl_ValidEntry (e_ : Entry) : Option Bool :=
  (impl_in e_.Day 0 100000).bind fun y_1 =>
  ck (!y_1 || (impl_IsName e_.What).isSome) <|
  ck (!(y_1 && ((impl_IsName e_.What).getD default)) || (impl_in e_.Value (-1000000) 1000000).isSome) <|
  some ((y_1 && ((impl_IsName e_.What).getD default)) && ((impl_in e_.Value (-1000000) 1000000).getD default))

/-- impl.LogOf$1 -/
noncomputable def impl_LogOf_c1 (e_ : Entry) : Option Bool :=
  (impl_ValidEntry e_).bind fun y_1 =>
  some (!y_1)

noncomputable def slices_IndexFunc_impl_Entry_impl_Entry__impl_LogOf_c1_l1 (s_ : List Entry) (t7 : Int) : Int → Option (Int ⊕ (Unit ⊕ Int))
  | t8 =>
    if (decide (t8 < t7)) then
      ck (ixOk t8 s_.length) <|
      (impl_LogOf_c1 (s_.getD t8.toNat default)).bind fun y_3 =>
      if y_3 then
        some (.inr (.inr t8))
      else
        some (.inl (IntKind.i64.wrap (t8 + 1)))
    else
      some (.inr (.inl ()))

/-- slices.IndexFunc[[]impl.Entry,impl.Entry] -/
noncomputable def slices_IndexFunc_impl_Entry_impl_Entry__impl_LogOf_c1 (s_ : List Entry) : Option Int :=
  (whileE (slices_IndexFunc_impl_Entry_impl_Entry__impl_LogOf_c1_l1 s_ (s_.length : Int)) 0).bind fun y_5 =>
  match y_5 with
  | .inl y_5a =>
    some (-1)
  | .inr y_5b =>
    some y_5b

/-- slices.ContainsFunc[[]impl.Entry,impl.Entry] -/
noncomputable def slices_ContainsFunc_impl_Entry_impl_Entry__impl_LogOf_c1 (s_ : List Entry) : Option Bool :=
  (slices_IndexFunc_impl_Entry_impl_Entry__impl_LogOf_c1 s_).bind fun y_1 =>
  some (decide (0 ≤ y_1))


/-- strconv.FormatInt -/
noncomputable def strconv_FormatInt (i : Int) (base : Int) : Option (List UInt8) :=
  (hFmt i base).bind fun y_1 =>
  some y_1

/-- impl.Decimal -/
noncomputable def impl_Decimal (n : Int) : Option (List UInt8) :=
  (strconv_FormatInt n 10).bind fun y_1 =>
  some y_1

/-- (impl.Entry).words -/
noncomputable def impl_Entry_words (e_ : Entry) : Option (List UInt8) :=
  (impl_Decimal e_.Day).bind fun y_1 =>
  ck (catOk y_1.length ([32] : List UInt8).length) <|
  ck (catOk (y_1 ++ ([32] : List UInt8)).length e_.What.length) <|
  ck (catOk ((y_1 ++ ([32] : List UInt8)) ++ e_.What).length ([32] : List UInt8).length) <|
  (impl_Decimal e_.Value).bind fun y_5 =>
  ck (catOk (((y_1 ++ ([32] : List UInt8)) ++ e_.What) ++ ([32] : List UInt8)).length y_5.length) <|
  some ((((y_1 ++ ([32] : List UInt8)) ++ e_.What) ++ ([32] : List UInt8)) ++ y_5)

noncomputable def impl_stamp_l1 (words : List UInt8) (t14 : Int) : (Int × Int) → Option ((Int × Int) ⊕ Int)
  | (sum, t15) =>
    if (decide (t15 < t14)) then
      ck (ixOk t15 words.length) <|
      ck (nz 65521) <|
      some (.inl (((IntKind.i64.wrap ((IntKind.i64.wrap (31 * sum)) + ((words.getD t15.toNat 0).toNat : Int))).tmod 65521), (IntKind.i64.wrap (t15 + 1))))
    else
      some (.inr sum)

/-- impl.stamp -/
noncomputable def impl_stamp (before : Int) (e_ : Entry) : Option Int :=
  ck (nz 65521) <|
  (impl_Entry_words e_).bind fun y_2 =>
  (whileE (impl_stamp_l1 y_2 (y_2.length : Int)) (((IntKind.i64.wrap (before + 23)).tmod 65521), 0)).bind fun y_6 =>
  some y_6

/-- impl.lineOf -/
noncomputable def impl_lineOf (e_ : Entry) (stamp : Int) : Option (List UInt8) :=
  (impl_Entry_words e_).bind fun y_1 =>
  ck (catOk y_1.length ([32] : List UInt8).length) <|
  (impl_Decimal stamp).bind fun y_3 =>
  ck (catOk (y_1 ++ ([32] : List UInt8)).length y_3.length) <|
  ck (catOk ((y_1 ++ ([32] : List UInt8)) ++ y_3).length ([10] : List UInt8).length) <|
  some (((y_1 ++ ([32] : List UInt8)) ++ y_3) ++ ([10] : List UInt8))

/-- impl.LogOf, by hand -/
noncomputable def impl_LogOf_d (list : List Entry) : Bool :=
  (List.range (list.length - 1)).any fun i => decide ((list.getD (i + 1) default).Day < (list.getD i default).Day)

noncomputable def impl_LogOf_l : List UInt8 → Int → List Entry → Option (Option (List UInt8))
  | acc, _, [] => some (some acc)
  | acc, last, e :: r =>
    (impl_stamp last e).bind fun z =>
    (impl_lineOf e z).bind fun t =>
    ck (decide (acc.length + t.length ≤ 140737488355328)) <|
    if decide (4000 < acc.length + t.length) = true then some none else impl_LogOf_l (acc ++ t) z r

noncomputable def impl_LogOf (list : List Entry) : Option (List UInt8 × Int) :=
  ck (decide (list.length ≤ 1099511627776)) <|
  (slices_ContainsFunc_impl_Entry_impl_Entry__impl_LogOf_c1 list).bind fun y =>
  if y then some ([], 7) else
  if impl_LogOf_d list then some ([], 6) else
  (impl_LogOf_l [] 0 list).bind fun z =>
  match z with
  | some t => some (t, 0)
  | none => some ([], 5)




/-- impl.readEntry -/
noncomputable def impl_readEntry (line : List UInt8) : Option (Entry × Int × Bool) :=
  (hSplit line ([32] : List UInt8)).bind fun y_1 =>
  if (!((y_1.length : Int) == 4)) then
    some ((Entry.mk 0 [] 0), 0, false)
  else
    ck (ixOk 0 y_1.length) <|
    (hRdDec (y_1.getD 0 default)).bind fun y_4 =>
    ck (ixOk 2 y_1.length) <|
    (hRdDec (y_1.getD 2 default)).bind fun y_6 =>
    ck (ixOk 3 y_1.length) <|
    (hRdDec (y_1.getD 3 default)).bind fun y_8 =>
    ck (ixOk 1 y_1.length) <|
    ck (!((y_4.2 && y_6.2) && y_8.2) || (impl_ValidEntry (Entry.mk y_4.1 (y_1.getD 1 default) y_6.1)).isSome) <|
    some ((Entry.mk y_4.1 (y_1.getD 1 default) y_6.1), y_8.1, (((y_4.2 && y_6.2) && y_8.2) && ((impl_ValidEntry (Entry.mk y_4.1 (y_1.getD 1 default) y_6.1)).getD default)))

noncomputable def impl_readLog_l1 (log : List UInt8) : ((List Entry) × Int × Int × Int) → Option (((List Entry) × Int × Int × Int) ⊕ ((List Entry) × Int × Int))
  | (entries, used, last, day) =>
    ck (cutOk used (log.length : Int) log.length) <|
    (hCut (cut log used (log.length : Int)) ([10] : List UInt8)).bind fun y_2 =>
    (impl_readEntry y_2.1).bind fun y_3 =>
    ck (!(!(((!y_2.2.2) || (!y_3.2.2)) || (decide (y_3.1.Day < day)))) || (impl_stamp last y_3.1).isSome) <|
    if ((((!y_2.2.2) || (!y_3.2.2)) || (decide (y_3.1.Day < day))) || (!(y_3.2.1 == ((impl_stamp last y_3.1).getD default)))) then
      some (.inr (entries, used, last))
    else
      ck (appOk (entries.length + ([y_3.1] : List Entry).length) 32) <|
      some (.inl ((entries ++ ([y_3.1] : List Entry)), (IntKind.i64.wrap (used + (IntKind.i64.wrap ((y_2.1.length : Int) + 1)))), y_3.2.1, y_3.1.Day))

/-- impl.readLog -/
noncomputable def impl_readLog (log : List UInt8) : Option ((List Entry) × Int × Int) :=
  (whileE (impl_readLog_l1 log) (([] : List Entry), 0, 0, 0)).bind fun y_7 =>
  some (y_7.1, y_7.2.1, y_7.2.2)

/-- impl.wholeLog -/
noncomputable def impl_wholeLog (log : List UInt8) : Option ((List Entry) × Int × Int) :=
  if (decide (4000 < (log.length : Int))) then
    some (([] : List Entry), 0, 5)
  else
    (impl_readLog log).bind fun y_2 =>
    if (decide (y_2.2.1 < (log.length : Int))) then
      some (([] : List Entry), 0, 8)
    else
      some (y_2.1, y_2.2.2, 0)

/-- impl.EntriesOf -/
noncomputable def impl_EntriesOf (log : List UInt8) : Option ((List Entry) × Int) :=
  (impl_wholeLog log).bind fun y_1 =>
  some (y_1.1, y_1.2.2)

/-- impl.AddEntry -/
noncomputable def impl_AddEntry (log : List UInt8) (e_ : Entry) : Option ((List UInt8) × Int) :=
  (impl_wholeLog log).bind fun y_1 =>
  if (!(y_1.2.2 == 0)) then
    some (([] : List UInt8), y_1.2.2)
  else
    (impl_ValidEntry e_).bind fun y_3 =>
    if (!y_3) then
      some (([] : List UInt8), 7)
    else
      ck (!(decide (0 < (y_1.1.length : Int))) || ixOk (IntKind.i64.wrap ((y_1.1.length : Int) - 1)) y_1.1.length) <|
      if ((decide (0 < (y_1.1.length : Int))) && (decide (e_.Day < ((y_1.1.getD (IntKind.i64.wrap ((y_1.1.length : Int) - 1)).toNat default).Day)))) then
        some (([] : List UInt8), 6)
      else
        (impl_stamp y_1.2.1 e_).bind fun y_7 =>
        (impl_lineOf e_ y_7).bind fun y_8 =>
        ck (catOk log.length y_8.length) <|
        if (decide (4000 < ((log ++ y_8).length : Int))) then
          some (([] : List UInt8), 5)
        else
          some ((log ++ y_8), 0)

/-- laws.a2At -/
noncomputable def laws_a2At (code : List UInt8) (at_ : Int) (n : Int) : Option Int :=
  if ((decide ((code.length : Int) ≤ at_)) || (decide (n < 1))) then
    some 0
  else
    ck (ixOk at_ code.length) <|
    ck (nz n) <|
    some (((code.getD at_.toNat default).toNat : Int).tmod n)

/-- impl.CheckLog -/
noncomputable def impl_CheckLog (log : List UInt8) : Option (Int × Int) :=
  if (decide (4000 < (log.length : Int))) then
    some (0, 5)
  else
    (impl_readLog log).bind fun y_2 =>
    some (y_2.2.1, 0)

/-- impl.RecoverLog -/
noncomputable def impl_RecoverLog (log : List UInt8) : Option ((List UInt8) × Int × Int) :=
  (impl_CheckLog log).bind fun y_1 =>
  if (!(y_1.2 == 0)) then
    some (([] : List UInt8), 0, y_1.2)
  else
    ck (cutOk 0 y_1.1 log.length) <|
    some ((cut log 0 y_1.1), (IntKind.i64.wrap ((log.length : Int) - y_1.1)), 0)

noncomputable def spec_l01Split_l1 (s_ : List UInt8) (by_ : UInt8) : ((List (List UInt8)) × Int × Int) → Option (((List (List UInt8)) × Int × Int) ⊕ ((List (List UInt8)) × Int))
  | (out, from_, i) =>
    if (decide (i < (s_.length : Int))) then
      ck (ixOk i s_.length) <|
      if (((s_.getD i.toNat 0).toNat : Int) == (by_.toNat : Int)) then
        ck (cutOk from_ i s_.length) <|
        ck (appOk (out.length + ([(cut s_ from_ i)] : List (List UInt8)).length) 16) <|
        some (.inl ((out ++ ([(cut s_ from_ i)] : List (List UInt8))), (IntKind.i64.wrap (i + 1)), (IntKind.i64.wrap (i + 1))))
      else
        some (.inl (out, from_, (IntKind.i64.wrap (i + 1))))
    else
      some (.inr (out, from_))

/-- spec.l01Split -/
noncomputable def spec_l01Split (s_ : List UInt8) (by_ : UInt8) : Option (List (List UInt8)) :=
  (whileE (spec_l01Split_l1 s_ by_) (([] : List (List UInt8)), 0, 0)).bind fun y_6 =>
  ck (cutOk y_6.2 (s_.length : Int) s_.length) <|
  ck (appOk (y_6.1.length + ([(cut s_ y_6.2 (s_.length : Int))] : List (List UInt8)).length) 16) <|
  some (y_6.1 ++ ([(cut s_ y_6.2 (s_.length : Int))] : List (List UInt8)))

noncomputable def spec_l01Dec_l1 (n : Int) : ((List UInt8) × Int) → Option (((List UInt8) × Int) ⊕ (List UInt8))
  | (out, k) =>
    if (!(k == 0)) then
      ck (nz 10) <|
      if (decide ((k.tmod 10) < 0)) then
        ck (appOk (([(toU8 (IntKind.u8.wrap (IntKind.i64.wrap (48 + (IntKind.i64.wrap (0 - (k.tmod 10)))))))] : List UInt8).length + out.length) 1) <|
        some (.inl ((([(toU8 (IntKind.u8.wrap (IntKind.i64.wrap (48 + (IntKind.i64.wrap (0 - (k.tmod 10)))))))] : List UInt8) ++ out), (IntKind.i64.wrap (k.tdiv 10))))
      else
        ck (appOk (([(toU8 (IntKind.u8.wrap (IntKind.i64.wrap (48 + (k.tmod 10)))))] : List UInt8).length + out.length) 1) <|
        some (.inl ((([(toU8 (IntKind.u8.wrap (IntKind.i64.wrap (48 + (k.tmod 10)))))] : List UInt8) ++ out), (IntKind.i64.wrap (k.tdiv 10))))
    else
      some (.inr out)

/-- spec.l01Dec -/
noncomputable def spec_l01Dec (n : Int) : Option (List UInt8) :=
  (whileE (spec_l01Dec_l1 n) (([] : List UInt8), n)).bind fun y_6 =>
  if ((y_6.length : Int) == 0) then
    some ([48] : List UInt8)
  else
    if (decide (n < 0)) then
      ck (catOk ([45] : List UInt8).length y_6.length) <|
      some (([45] : List UInt8) ++ y_6)
    else
      some y_6

/-- spec.l27Words -/
noncomputable def spec_l27Words (e_ : Entry) : Option (List UInt8) :=
  (spec_l01Dec e_.Day).bind fun y_1 =>
  ck (catOk y_1.length ([32] : List UInt8).length) <|
  ck (catOk (y_1 ++ ([32] : List UInt8)).length e_.What.length) <|
  ck (catOk ((y_1 ++ ([32] : List UInt8)) ++ e_.What).length ([32] : List UInt8).length) <|
  (spec_l01Dec e_.Value).bind fun y_5 =>
  ck (catOk (((y_1 ++ ([32] : List UInt8)) ++ e_.What) ++ ([32] : List UInt8)).length y_5.length) <|
  some ((((y_1 ++ ([32] : List UInt8)) ++ e_.What) ++ ([32] : List UInt8)) ++ y_5)

noncomputable def spec_l27Stamp_l1 (words : List UInt8) : (Int × Int) → Option ((Int × Int) ⊕ Int)
  | (sum, i) =>
    if (decide (i < (words.length : Int))) then
      ck (ixOk i words.length) <|
      ck (nz 65521) <|
      some (.inl (((IntKind.i64.wrap ((IntKind.i64.wrap (31 * sum)) + ((words.getD i.toNat 0).toNat : Int))).tmod 65521), (IntKind.i64.wrap (i + 1))))
    else
      some (.inr sum)

/-- spec.l27Stamp -/
noncomputable def spec_l27Stamp (before : Int) (words : List UInt8) : Option Int :=
  ck (nz 65521) <|
  (whileE (spec_l27Stamp_l1 words) (((IntKind.i64.wrap (before + 23)).tmod 65521), 0)).bind fun y_5 =>
  some y_5

/-- spec.l27Line -/
noncomputable def spec_l27Line (stamp : Int) (e_ : Entry) : Option (List UInt8) :=
  (spec_l27Words e_).bind fun y_1 =>
  ck (catOk y_1.length ([32] : List UInt8).length) <|
  (spec_l01Dec stamp).bind fun y_3 =>
  ck (catOk (y_1 ++ ([32] : List UInt8)).length y_3.length) <|
  ck (catOk ((y_1 ++ ([32] : List UInt8)) ++ y_3).length ([10] : List UInt8).length) <|
  some (((y_1 ++ ([32] : List UInt8)) ++ y_3) ++ ([10] : List UInt8))

noncomputable def spec_l01Number_l1 (s_ : List UInt8) (t : List UInt8) : (Int × Int) → Option ((Int × Int) ⊕ (Int ⊕ (Int × Bool)))
  | (n, i) =>
    if (decide (i < (t.length : Int))) then
      ck (ixOk i t.length) <|
      (spec_l01Digit (t.getD i.toNat 0)).bind fun y_7 =>
      if (!y_7) then
        some (.inr (.inr (0, false)))
      else
        some (.inl ((IntKind.i64.wrap ((IntKind.i64.wrap (10 * n)) + (IntKind.i64.wrap (IntKind.u8.wrap (((t.getD i.toNat 0).toNat : Int) - 48))))), (IntKind.i64.wrap (i + 1))))
    else
      some (.inr (.inl n))

noncomputable def spec_l01Number_l2 (s_ : List UInt8) (t : List UInt8) : (Int × Int) → Option ((Int × Int) ⊕ (Int ⊕ (Int × Bool)))
  | (n, i) =>
    if (decide (i < (t.length : Int))) then
      ck (ixOk i t.length) <|
      (spec_l01Digit (t.getD i.toNat 0)).bind fun y_18 =>
      if (!y_18) then
        some (.inr (.inr (0, false)))
      else
        some (.inl ((IntKind.i64.wrap ((IntKind.i64.wrap (10 * n)) + (IntKind.i64.wrap (IntKind.u8.wrap (((t.getD i.toNat 0).toNat : Int) - 48))))), (IntKind.i64.wrap (i + 1))))
    else
      some (.inr (.inl n))

/-- spec.l01Number -/
noncomputable def spec_l01Number (s_ : List UInt8) : Option (Int × Bool) :=
  ck (!(!(s_ == ([] : List UInt8))) || ixOk 0 s_.length) <|
  if ((!(s_ == ([] : List UInt8))) && (((s_.getD 0 0).toNat : Int) == 45)) then
    ck (cutOk 1 (s_.length : Int) s_.length) <|
    if ((decide (((cut s_ 1 (s_.length : Int)).length : Int) < 1)) || (decide (18 < ((cut s_ 1 (s_.length : Int)).length : Int)))) then
      some (0, false)
    else
      (whileE (spec_l01Number_l1 s_ (cut s_ 1 (s_.length : Int))) (0, 0)).bind fun y_9 =>
      match y_9 with
      | .inl y_9a =>
        if (decide (((cut s_ 1 (s_.length : Int)).length : Int) < (s_.length : Int))) then
          (spec_l01Dec (IntKind.i64.wrap (0 - y_9a))).bind fun y_11 =>
          if (!(y_11 == s_)) then
            some (0, false)
          else
            some ((IntKind.i64.wrap (0 - y_9a)), true)
        else
          (spec_l01Dec y_9a).bind fun y_13 =>
          if (!(y_13 == s_)) then
            some (0, false)
          else
            some (y_9a, true)
      | .inr y_9b =>
        some (y_9b.1, y_9b.2)
  else
    if ((decide ((s_.length : Int) < 1)) || (decide (18 < (s_.length : Int)))) then
      some (0, false)
    else
      (whileE (spec_l01Number_l2 s_ s_) (0, 0)).bind fun y_20 =>
      match y_20 with
      | .inl y_20a =>
        if (decide ((s_.length : Int) < (s_.length : Int))) then
          (spec_l01Dec (IntKind.i64.wrap (0 - y_20a))).bind fun y_22 =>
          if (!(y_22 == s_)) then
            some (0, false)
          else
            some ((IntKind.i64.wrap (0 - y_20a)), true)
        else
          (spec_l01Dec y_20a).bind fun y_24 =>
          if (!(y_24 == s_)) then
            some (0, false)
          else
            some (y_20a, true)
      | .inr y_20b =>
        some (y_20b.1, y_20b.2)

/-- (*spec.l27R).day -/
noncomputable def spec_l27R_day (r : L27R) : Option Int :=
  if ((r.list_.length : Int) == 0) then
    some 0
  else
    ck (ixOk (IntKind.i64.wrap ((r.list_.length : Int) - 1)) r.list_.length) <|
    some ((r.list_.getD (IntKind.i64.wrap ((r.list_.length : Int) - 1)).toNat default).Day)

noncomputable def spec_l27R_lineA_l1 (r : L27R) (t2 : Bool) : Int → Option (Int ⊕ Int)
  | end_ =>
    ck (!(decide (end_ < (r.s_.length : Int))) || ixOk end_ r.s_.length) <|
    if ((decide (end_ < (r.s_.length : Int))) && (!(((r.s_.getD end_.toNat 0).toNat : Int) == 10))) then
      some (.inl (IntKind.i64.wrap (end_ + 1)))
    else
      some (.inr end_)

/-- (*spec.l27R).line up to its append -/
noncomputable def spec_l27R_lineA (r : L27R) : Option (Option (Int × Int × Entry)) :=
  (whileE (spec_l27R_lineA_l1 r false) r.at_).bind fun y_3 =>
  if (decide ((r.s_.length : Int) ≤ y_3)) then
    some (none)
  else
    ck (cutOk r.at_ y_3 r.s_.length) <|
    (spec_l01Split (cut r.s_ r.at_ y_3) (32 : UInt8)).bind fun y_6 =>
    if (!((y_6.length : Int) == 4)) then
      some (none)
    else
      ck (ixOk 0 y_6.length) <|
      (spec_l01Number (y_6.getD 0 default)).bind fun y_9 =>
      ck (ixOk 2 y_6.length) <|
      (spec_l01Number (y_6.getD 2 default)).bind fun y_11 =>
      ck (ixOk 1 y_6.length) <|
      ck (!(!((!y_9.2) || (!y_11.2))) || (spec_l27Ok (Entry.mk y_9.1 (y_6.getD 1 default) y_11.1)).isSome) <|
      ck (!(!(((!y_9.2) || (!y_11.2)) || (!((spec_l27Ok (Entry.mk y_9.1 (y_6.getD 1 default) y_11.1)).getD default)))) || (spec_l27R_day r).isSome) <|
      if ((((!y_9.2) || (!y_11.2)) || (!((spec_l27Ok (Entry.mk y_9.1 (y_6.getD 1 default) y_11.1)).getD default))) || (decide (y_9.1 < ((spec_l27R_day r).getD default)))) then
        some (none)
      else
        (spec_l27Words (Entry.mk y_9.1 (y_6.getD 1 default) y_11.1)).bind fun y_16 =>
        (spec_l27Stamp r.stamp_ y_16).bind fun y_17 =>
        (spec_l27Line y_17 (Entry.mk y_9.1 (y_6.getD 1 default) y_11.1)).bind fun y_18 =>
        ck (cutOk r.at_ (IntKind.i64.wrap (y_3 + 1)) r.s_.length) <|
        if (!(y_18 == (cut r.s_ r.at_ (IntKind.i64.wrap (y_3 + 1))))) then
          some (none)
        else
          some (some (y_3, y_17, (Entry.mk y_9.1 (y_6.getD 1 default) y_11.1)))

/-- (*spec.l27R).line -/
noncomputable def spec_l27R_line (r : L27R) : Option (Bool × L27R) :=
  (spec_l27R_lineA r).bind fun y =>
  match y with
  | none => some (false, r)
  | some q =>
    ck (appOk (r.list_.length + ([q.2.2] : List Entry).length) 32) <|
    some (true, L27R.mk r.s_ (IntKind.i64.wrap (q.1 + 1)) q.2.1 (r.list_ ++ [q.2.2]))

noncomputable def spec_l27Read_l1 : L27R → Option (L27R ⊕ L27R)
  | r => (spec_l27R_line r).bind fun y => if y.1 then some (.inl y.2) else some (.inr y.2)

/-- spec.l27Read -/
noncomputable def spec_l27Read (s_ : List UInt8) : Option L27R := whileE spec_l27Read_l1 (L27R.mk s_ 0 0 [])

/-- spec.l27Code -/
noncomputable def spec_l27Code (s_ : List UInt8) : Option (L27R × Int) :=
  if (decide (4000 < (s_.length : Int))) then
    some ((L27R.mk [] 0 0 ([] : List Entry)), 5)
  else
    (spec_l27Read s_).bind fun y_2 =>
    if (!(y_2.at_ == (s_.length : Int))) then
      some (y_2, 8)
    else
      some (y_2, 0)

/-- spec.EntriesOf -/
noncomputable def spec_EntriesOf (log : List UInt8) : Option ((List Entry) × Int) :=
  (spec_l27Code log).bind fun y_1 =>
  if (!(y_1.2 == 0)) then
    some (([] : List Entry), y_1.2)
  else
    some (y_1.1.list_, 0)

noncomputable def laws_FnLogs_l1 (more : List UInt8) (list : List Entry) (log : List UInt8) (back : List Entry) : ((List UInt8) × Int) → Option (((List UInt8) × Int) ⊕ ((List UInt8) ⊕ Bool))
  | (step, i) =>
    if (decide (i < (list.length : Int))) then
      ck (ixOk i back.length) <|
      ck (ixOk i list.length) <|
      if (!((((back.getD i.toNat default).Day) == ((list.getD i.toNat default).Day)) && ((((back.getD i.toNat default).What) == ((list.getD i.toNat default).What)) && (((back.getD i.toNat default).Value) == ((list.getD i.toNat default).Value))))) then
        some (.inr (.inr false))
      else
        (impl_AddEntry step (list.getD i.toNat default)).bind fun y_11 =>
        ck (!(!((!(y_11.2 == 0)) || (decide ((log.length : Int) < (y_11.1.length : Int))))) || cutOk 0 (y_11.1.length : Int) log.length) <|
        if (((!(y_11.2 == 0)) || (decide ((log.length : Int) < (y_11.1.length : Int)))) || (!(y_11.1 == (cut log 0 (y_11.1.length : Int))))) then
          some (.inr (.inr false))
        else
          some (.inl (y_11.1, (IntKind.i64.wrap (i + 1))))
    else
      some (.inr (.inl step))

/-- laws.FnLogs -/
noncomputable def laws_FnLogs (code : List UInt8) (more : List UInt8) : Option Bool :=
  (laws_a2Long code more).bind fun y_1 =>
  if y_1 then
    some true
  else
    (spec_A2Entries code).bind fun y_3 =>
    (impl_LogOf y_3).bind fun y_4 =>
    (impl_EntriesOf y_4.1).bind fun y_5 =>
    if (((!(y_4.2 == 0)) || (!(y_5.2 == 0))) || (!((y_5.1.length : Int) == (y_3.length : Int)))) then
      some false
    else
      (whileE (laws_FnLogs_l1 more y_3 y_4.1 y_5.1) (([] : List UInt8), 0)).bind fun y_14 =>
      match y_14 with
      | .inl y_14a =>
        (laws_a2At more 0 256).bind fun y_15 =>
        (laws_a2At more 1 256).bind fun y_16 =>
        ck (cutOk 0 (if (y_4.1.length : Int) < (IntKind.i64.wrap (y_15 + y_16)) then (y_4.1.length : Int) else (IntKind.i64.wrap (y_15 + y_16))) y_4.1.length) <|
        (impl_RecoverLog (cut y_4.1 0 (if (y_4.1.length : Int) < (IntKind.i64.wrap (y_15 + y_16)) then (y_4.1.length : Int) else (IntKind.i64.wrap (y_15 + y_16))))).bind fun y_18 =>
        (impl_CheckLog (cut y_4.1 0 (if (y_4.1.length : Int) < (IntKind.i64.wrap (y_15 + y_16)) then (y_4.1.length : Int) else (IntKind.i64.wrap (y_15 + y_16))))).bind fun y_19 =>
        ck (!(!(((((!(y_14a == y_4.1)) || (!(y_18.2.2 == 0))) || (!(y_19.2 == 0))) || (!(y_19.1 == (y_18.1.length : Int)))) || (decide ((if (y_4.1.length : Int) < (IntKind.i64.wrap (y_15 + y_16)) then (y_4.1.length : Int) else (IntKind.i64.wrap (y_15 + y_16))) < y_19.1)))) || cutOk 0 y_19.1 y_4.1.length) <|
        if (((((((!(y_14a == y_4.1)) || (!(y_18.2.2 == 0))) || (!(y_19.2 == 0))) || (!(y_19.1 == (y_18.1.length : Int)))) || (decide ((if (y_4.1.length : Int) < (IntKind.i64.wrap (y_15 + y_16)) then (y_4.1.length : Int) else (IntKind.i64.wrap (y_15 + y_16))) < y_19.1))) || (!(y_18.1 == (cut y_4.1 0 y_19.1)))) || (!(y_18.2.1 == (IntKind.i64.wrap ((if (y_4.1.length : Int) < (IntKind.i64.wrap (y_15 + y_16)) then (y_4.1.length : Int) else (IntKind.i64.wrap (y_15 + y_16))) - y_19.1))))) then
          some false
        else
          (spec_EntriesOf y_18.1).bind fun y_22 =>
          some ((y_22.2 == 0) && (decide ((y_22.1.length : Int) ≤ (y_3.length : Int))))
      | .inr y_14b =>
        some y_14b

end Go.Proofs.YtlcabohpeopdcaaGreatDoor
