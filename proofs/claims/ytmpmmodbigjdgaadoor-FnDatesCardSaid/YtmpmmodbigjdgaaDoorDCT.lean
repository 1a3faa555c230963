/- Typed forms of the functions that DC reaches. No condition. -/
import Derived.Test.YtmpmmodbigjdgaaDoorEngSI
namespace Go.Proofs.YtmpmmodbigjdgaaDoor
open Go Go.RowKit
set_option linter.unusedVariables false

structure L00Src where
  code_ : List UInt8
  at_ : Int
  seed_ : Int
  deriving Inhabited, DecidableEq
def L00Src_av (x : L00Src) : AV := .agg ([.sl 1 (List.map byteAV x.code_), .int .i64 x.at_, .int .u64 x.seed_])

structure Date where
  Year : Int
  Month : Int
  Day : Int
  deriving Inhabited, DecidableEq
def Date_av (x : Date) : AV := .agg ([.int .i64 x.Year, .int .i64 x.Month, .int .i64 x.Day])

structure Fraction where
  Num : Int
  Den : Int
  deriving Inhabited, DecidableEq
def Fraction_av (x : Fraction) : AV := .agg ([.int .i64 x.Num, .int .i64 x.Den])

attribute [go_sem] L00Src_av Date_av Fraction_av

/-- laws.f6big -/
noncomputable def laws_f6big (code : List UInt8) : Option Bool :=
  some (decide (4096 < (code.length : Int)))

/-- spec.l00From -/
noncomputable def spec_l00From (code : List UInt8) : Option L00Src :=
  some (L00Src.mk code 0 0)

/-- (*spec.l00Src).next -/
noncomputable def spec_l00Src_next (s_ : L00Src) : Option (Int × L00Src) :=
  if (decide (s_.at_ < (s_.code_.length : Int))) then
    ck (ixOk s_.at_ s_.code_.length) <|
    if (decide ((IntKind.i64.wrap (s_.at_ + 1)) ≤ (s_.code_.length : Int))) then
      some (((s_.code_.getD s_.at_.toNat default).toNat : Int), (L00Src.mk s_.code_ (IntKind.i64.wrap (s_.at_ + 1)) (IntKind.u64.wrap ((IntKind.u64.wrap ((IntKind.u64.wrap (s_.seed_ * 6364136223846793005)) + (IntKind.u64.wrap ((s_.code_.getD s_.at_.toNat default).toNat : Int)))) + 1442695040888963407))))
    else
      ck (shOk 40) <|
      some ((IntKind.i64.wrap (IntKind.u64.wrap (BitVec.ofInt (IntKind.bits .u64) ((IntKind.u64.wrap ((IntKind.u64.wrap ((IntKind.u64.wrap (s_.seed_ * 6364136223846793005)) + (IntKind.u64.wrap ((s_.code_.getD s_.at_.toNat default).toNat : Int)))) + 1442695040888963407)).fdiv (2 ^ (min 40 64))) &&& BitVec.ofInt (IntKind.bits .u64) 255).toNat)), (L00Src.mk s_.code_ (IntKind.i64.wrap (s_.at_ + 1)) (IntKind.u64.wrap ((IntKind.u64.wrap ((IntKind.u64.wrap (s_.seed_ * 6364136223846793005)) + (IntKind.u64.wrap ((s_.code_.getD s_.at_.toNat default).toNat : Int)))) + 1442695040888963407))))
  else
    if (decide ((IntKind.i64.wrap (s_.at_ + 1)) ≤ (s_.code_.length : Int))) then
      some (0, (L00Src.mk s_.code_ (IntKind.i64.wrap (s_.at_ + 1)) (IntKind.u64.wrap ((IntKind.u64.wrap ((IntKind.u64.wrap (s_.seed_ * 6364136223846793005)) + (IntKind.u64.wrap 0))) + 1442695040888963407))))
    else
      ck (shOk 40) <|
      some ((IntKind.i64.wrap (IntKind.u64.wrap (BitVec.ofInt (IntKind.bits .u64) ((IntKind.u64.wrap ((IntKind.u64.wrap ((IntKind.u64.wrap (s_.seed_ * 6364136223846793005)) + (IntKind.u64.wrap 0))) + 1442695040888963407)).fdiv (2 ^ (min 40 64))) &&& BitVec.ofInt (IntKind.bits .u64) 255).toNat)), (L00Src.mk s_.code_ (IntKind.i64.wrap (s_.at_ + 1)) (IntKind.u64.wrap ((IntKind.u64.wrap ((IntKind.u64.wrap (s_.seed_ * 6364136223846793005)) + (IntKind.u64.wrap 0))) + 1442695040888963407))))

/-- (*spec.l00Src).pick -/
noncomputable def spec_l00Src_pick (s_ : L00Src) (n : Int) : Option (Int × L00Src) :=
  if (decide (n ≤ 1)) then
    some (0, s_)
  else
    (spec_l00Src_next s_).bind fun y_2 =>
    if (decide (200 < n)) then
      (spec_l00Src_next y_2.2).bind fun y_4 =>
      ck (nz n) <|
      some (((IntKind.i64.wrap ((IntKind.i64.wrap (y_2.1 * 256)) + y_4.1)).tmod n), y_4.2)
    else
      ck (nz n) <|
      some ((y_2.1.tmod n), y_2.2)

/-- (*spec.l00Src).one -/
noncomputable def spec_l00Src_one (s_ : L00Src) (n : Int) : Option (Bool × L00Src) :=
  (spec_l00Src_pick s_ n).bind fun y_1 =>
  some ((y_1.1 == 0), y_1.2)

/-- (*spec.l00Src).among -/
noncomputable def spec_l00Src_among (s_ : L00Src) (list : List Int) : Option (Int × L00Src) :=
  (spec_l00Src_pick s_ (list.length : Int)).bind fun y_1 =>
  ck (ixOk y_1.1 list.length) <|
  some ((list.getD y_1.1.toNat default), y_1.2)

/-- spec.l03Day -/
noncomputable def spec_l03Day (s_ : L00Src) : Option (Int × L00Src) :=
  (spec_l00Src_one s_ 10).bind fun y_1 =>
  if y_1.1 then
    (spec_l00Src_among y_1.2 ([(-1), 0, 100000, 100001, 9223372036854775807] : List Int)).bind fun y_3 =>
    some (y_3.1, y_3.2)
  else
    (spec_l00Src_pick y_1.2 370).bind fun y_4 =>
    (spec_l00Src_pick y_4.2 270).bind fun y_5 =>
    some ((IntKind.i64.wrap (y_4.1 + (IntKind.i64.wrap (365 * y_5.1)))), y_5.2)

/-- spec.DrawDateOf -/
noncomputable def spec_DrawDateOf (code : List UInt8) : Option Int :=
  (spec_l00From code).bind fun y_1 =>
  (spec_l03Day y_1).bind fun y_2 =>
  some y_2.1

/-- impl.in -/
noncomputable def impl_in (n : Int) (low : Int) (high : Int) : Option Bool :=
  some ((decide (low ≤ n)) && (decide (n ≤ high)))

/-- impl.isLeap -/
noncomputable def impl_isLeap (year : Int) : Option Bool :=
  ck (nz 4) <|
  ck (!((year.tmod 4) == 0) || nz 100) <|
  ck (!(!(((year.tmod 4) == 0) && (!((year.tmod 100) == 0)))) || nz 400) <|
  some ((((year.tmod 4) == 0) && (!((year.tmod 100) == 0))) || ((year.tmod 400) == 0))

/-- impl.yearDays -/
noncomputable def impl_yearDays (year : Int) : Option Int :=
  (impl_isLeap year).bind fun y_1 =>
  if y_1 then
    some 366
  else
    some 365

/-- impl.monthDays -/
noncomputable def impl_monthDays (year : Int) (month : Int) : Option Int :=
  if (month == 4) then
    some 30
  else
    if (month == 6) then
      some 30
    else
      if (month == 9) then
        some 30
      else
        if (month == 11) then
          some 30
        else
          if (month == 2) then
            (impl_yearDays year).bind fun y_6 =>
            some (IntKind.i64.wrap (y_6 - 337))
          else
            some 31

noncomputable def impl_DateOf_l1 (t2 : Date) : (Int × Date) → Option ((Int × Date) ⊕ (Int × Date))
  | (day, d) =>
    (impl_yearDays d.Year).bind fun y_3 =>
    if (decide (y_3 ≤ day)) then
      some (.inl ((IntKind.i64.wrap (day - y_3)), (Date.mk (IntKind.i64.wrap (d.Year + 1)) d.Month d.Day)))
    else
      some (.inr (day, d))

noncomputable def impl_DateOf_l2 (t2 : Date) : (Int × Date) → Option ((Int × Date) ⊕ (Int × Date))
  | (day, d) =>
    (impl_monthDays d.Year d.Month).bind fun y_6 =>
    if (decide (y_6 ≤ day)) then
      some (.inl ((IntKind.i64.wrap (day - y_6)), (Date.mk d.Year (IntKind.i64.wrap (d.Month + 1)) d.Day)))
    else
      some (.inr (day, d))

/-- impl.DateOf -/
noncomputable def impl_DateOf (day : Int) : Option (Date × Int) :=
  (impl_in day 0 100000).bind fun y_1 =>
  if (!y_1) then
    some ((Date.mk 0 0 0), 2)
  else
    (whileE (impl_DateOf_l1 (Date.mk 0 0 0)) (day, (Date.mk 2001 1 0))).bind fun y_5 =>
    (whileE (impl_DateOf_l2 (Date.mk 0 0 0)) (y_5.1, y_5.2)).bind fun y_8 =>
    some ((Date.mk y_8.2.Year y_8.2.Month (IntKind.i64.wrap (y_8.1 + 1))), 0)

/-- spec.l03Leap -/
noncomputable def spec_l03Leap (year : Int) : Option Bool :=
  ck (nz 4) <|
  ck (!((year.tmod 4) == 0) || nz 100) <|
  ck (!(!(((year.tmod 4) == 0) && (!((year.tmod 100) == 0)))) || nz 400) <|
  some ((((year.tmod 4) == 0) && (!((year.tmod 100) == 0))) || ((year.tmod 400) == 0))

/-- spec.l03Days -/
noncomputable def spec_l03Days (year : Int) (month : Int) : Option Int :=
  ck (!(month == 2) || (spec_l03Leap year).isSome) <|
  if ((month == 2) && ((spec_l03Leap year).getD default)) then
    some 29
  else
    ck (ixOk (IntKind.i64.wrap (month - 1)) (([31, 28, 31, 30, 31, 30, 31, 31, 30, 31, 30, 31] : List Int).length)) <|
    some (([31, 28, 31, 30, 31, 30, 31, 31, 30, 31, 30, 31] : List Int).getD (IntKind.i64.wrap (month - 1)).toNat default)

/-- spec.l00In -/
noncomputable def spec_l00In (n : Int) (low : Int) (high : Int) : Option Bool :=
  some ((decide (low ≤ n)) && (decide (n ≤ high)))

/-- spec.l03Start -/
noncomputable def spec_l03Start (year : Int) : Option Int :=
  ck (nz 4) <|
  ck (nz 100) <|
  ck (nz 400) <|
  some (IntKind.i64.wrap ((IntKind.i64.wrap ((IntKind.i64.wrap ((IntKind.i64.wrap (365 * (IntKind.i64.wrap (year - 2001)))) + (IntKind.i64.wrap ((IntKind.i64.wrap (year - 2001)).tdiv 4)))) - (IntKind.i64.wrap ((IntKind.i64.wrap (year - 2001)).tdiv 100)))) + (IntKind.i64.wrap ((IntKind.i64.wrap (year - 2001)).tdiv 400))))

noncomputable def spec_DateOf_l1 (day : Int) (t2 : Date) : Int → Option (Int ⊕ Int)
  | year =>
    (spec_l03Start (IntKind.i64.wrap (year + 1))).bind fun y_4 =>
    if (decide (y_4 ≤ day)) then
      some (.inl (IntKind.i64.wrap (year + 1)))
    else
      some (.inr year)

noncomputable def spec_DateOf_l2 (t2 : Date) (year : Int) : Date → Option (Date ⊕ Date)
  | out =>
    (spec_l03Days year out.Month).bind fun y_8 =>
    if (decide (y_8 < out.Day)) then
      some (.inl (Date.mk out.Year (IntKind.i64.wrap (out.Month + 1)) (IntKind.i64.wrap (out.Day - y_8))))
    else
      some (.inr out)

/-- spec.DateOf -/
noncomputable def spec_DateOf (day : Int) : Option (Date × Int) :=
  (spec_l00In day 0 100000).bind fun y_1 =>
  if (!y_1) then
    some ((Date.mk 0 0 0), 2)
  else
    ck (nz 366) <|
    (whileE (spec_DateOf_l1 day (Date.mk 0 0 0)) (IntKind.i64.wrap (2001 + (IntKind.i64.wrap (day.tdiv 366))))).bind fun y_6 =>
    (spec_l03Start y_6).bind fun y_7 =>
    (whileE (spec_DateOf_l2 (Date.mk 0 0 0) y_6) (Date.mk y_6 1 (IntKind.i64.wrap ((IntKind.i64.wrap (day - y_7)) + 1)))).bind fun y_10 =>
    some (y_10, 0)

/-- spec.l03Bent -/
noncomputable def spec_l03Bent (s_ : L00Src) : Option (Date × L00Src) :=
  (spec_l00Src_pick s_ 270).bind fun y_1 =>
  (spec_l00Src_pick y_1.2 12).bind fun y_2 =>
  (spec_l00Src_pick y_2.2 28).bind fun y_3 =>
  (spec_l00Src_pick y_3.2 10).bind fun y_4 =>
  if (y_4.1 == 0) then
    (spec_l00Src_among y_4.2 ([(-1), 0, 29, 30, 31, 32, (-9223372036854775808)] : List Int)).bind fun y_6 =>
    some ((Date.mk (IntKind.i64.wrap (2001 + y_1.1)) (IntKind.i64.wrap (1 + y_2.1)) y_6.1), y_6.2)
  else
    if (y_4.1 == 1) then
      (spec_l00Src_among y_4.2 ([(-1), 0, 13, 9223372036854775807] : List Int)).bind fun y_8 =>
      some ((Date.mk (IntKind.i64.wrap (2001 + y_1.1)) y_8.1 (IntKind.i64.wrap (1 + y_3.1))), y_8.2)
    else
      if (y_4.1 == 2) then
        (spec_l00Src_among y_4.2 ([(-1), 2000, 2001, 2274, 2275, 2300, 2301, 9223372036854775807] : List Int)).bind fun y_10 =>
        some ((Date.mk y_10.1 (IntKind.i64.wrap (1 + y_2.1)) (IntKind.i64.wrap (1 + y_3.1))), y_10.2)
      else
        if (y_4.1 == 3) then
          (spec_l00Src_pick y_4.2 60).bind fun y_12 =>
          some ((Date.mk (IntKind.i64.wrap ((IntKind.i64.wrap (4 * y_12.1)) + 2004)) 2 29), y_12.2)
        else
          if (y_4.1 == 4) then
            (spec_l00Src_pick y_4.2 3).bind fun y_14 =>
            some ((Date.mk 2274 10 (IntKind.i64.wrap (16 + y_14.1))), y_14.2)
          else
            some ((Date.mk (IntKind.i64.wrap (2001 + y_1.1)) (IntKind.i64.wrap (1 + y_2.1)) (IntKind.i64.wrap (1 + y_3.1))), y_4.2)

/-- spec.DrawDayNumber -/
noncomputable def spec_DrawDayNumber (code : List UInt8) : Option Date :=
  (spec_l00From code).bind fun y_1 =>
  (spec_l03Bent y_1).bind fun y_2 =>
  some y_2.1

noncomputable def impl_numberOf_l1 (d : Date) : (Int × Int) → Option ((Int × Int) ⊕ Int)
  | (day, year) =>
    if (decide (year < d.Year)) then
      (impl_yearDays year).bind fun y_2 =>
      some (.inl ((IntKind.i64.wrap (day + y_2)), (IntKind.i64.wrap (year + 1))))
    else
      some (.inr day)

noncomputable def impl_numberOf_l2 (d : Date) : (Int × Int) → Option ((Int × Int) ⊕ Int)
  | (day, month) =>
    if (decide (month < d.Month)) then
      (impl_monthDays d.Year month).bind fun y_5 =>
      some (.inl ((IntKind.i64.wrap (day + y_5)), (IntKind.i64.wrap (month + 1))))
    else
      some (.inr day)

/-- impl.numberOf -/
noncomputable def impl_numberOf (d : Date) : Option Int :=
  (whileE (impl_numberOf_l1 d) ((IntKind.i64.wrap (d.Day - 1)), 2001)).bind fun y_3 =>
  (whileE (impl_numberOf_l2 d) (y_3, 1)).bind fun y_6 =>
  some y_6

/-- impl.ValidDate -/
noncomputable def impl_ValidDate (d : Date) : Option Bool :=
  (impl_in d.Year 2001 2300).bind fun y_1 =>
  ck (!y_1 || (impl_in d.Month 1 12).isSome) <|
  ck (!(y_1 && ((impl_in d.Month 1 12).getD default)) || (impl_monthDays d.Year d.Month).isSome) <|
  ck (!(y_1 && ((impl_in d.Month 1 12).getD default)) || (impl_in d.Day 1 ((impl_monthDays d.Year d.Month).getD default)).isSome) <|
  ck (!((y_1 && ((impl_in d.Month 1 12).getD default)) && ((impl_in d.Day 1 ((impl_monthDays d.Year d.Month).getD default)).getD default)) || (impl_numberOf d).isSome) <|
  some (((y_1 && ((impl_in d.Month 1 12).getD default)) && ((impl_in d.Day 1 ((impl_monthDays d.Year d.Month).getD default)).getD default)) && (decide (((impl_numberOf d).getD default) ≤ 100000)))

/-- impl.DayNumber -/
noncomputable def impl_DayNumber (d : Date) : Option (Int × Int) :=
  (impl_ValidDate d).bind fun y_1 =>
  if (!y_1) then
    some (0, 1)
  else
    (impl_numberOf d).bind fun y_3 =>
    some (y_3, 0)

/-- spec.l03Date -/
noncomputable def spec_l03Date (d : Date) : Option Bool :=
  (spec_l00In d.Year 2001 2300).bind fun y_1 =>
  ck (!y_1 || (spec_l00In d.Month 1 12).isSome) <|
  ck (!(y_1 && ((spec_l00In d.Month 1 12).getD default)) || (spec_l03Days d.Year d.Month).isSome) <|
  ck (!(y_1 && ((spec_l00In d.Month 1 12).getD default)) || (spec_l00In d.Day 1 ((spec_l03Days d.Year d.Month).getD default)).isSome) <|
  some ((y_1 && ((spec_l00In d.Month 1 12).getD default)) && ((spec_l00In d.Day 1 ((spec_l03Days d.Year d.Month).getD default)).getD default))

noncomputable def spec_l03Number_l1 (d : Date) : (Int × Int) → Option ((Int × Int) ⊕ Int)
  | (day, m) =>
    if (decide (m < d.Month)) then
      (spec_l03Days d.Year m).bind fun y_3 =>
      some (.inl ((IntKind.i64.wrap (day + y_3)), (IntKind.i64.wrap (m + 1))))
    else
      some (.inr day)

/-- spec.l03Number -/
noncomputable def spec_l03Number (d : Date) : Option Int :=
  (spec_l03Start d.Year).bind fun y_1 =>
  (whileE (spec_l03Number_l1 d) (y_1, 1)).bind fun y_4 =>
  some (IntKind.i64.wrap ((IntKind.i64.wrap (y_4 + d.Day)) - 1))

/-- spec.ValidDate -/
noncomputable def spec_ValidDate (d : Date) : Option Bool :=
  (spec_l03Date d).bind fun y_1 =>
  ck (!y_1 || (spec_l03Number d).isSome) <|
  some (y_1 && (decide (((spec_l03Number d).getD default) ≤ 100000)))

/-- spec.DayNumber -/
noncomputable def spec_DayNumber (d : Date) : Option (Int × Int) :=
  (spec_ValidDate d).bind fun y_1 =>
  if (!y_1) then
    some (0, 1)
  else
    (spec_l03Number d).bind fun y_3 =>
    some (y_3, 0)

/-- spec.DrawWeekdayOf -/
noncomputable def spec_DrawWeekdayOf (code : List UInt8) : Option Int :=
  (spec_l00From code).bind fun y_1 =>
  (spec_l03Day y_1).bind fun y_2 =>
  some y_2.1

/-- impl.WeekdayOf -/
noncomputable def impl_WeekdayOf (day : Int) : Option (Int × Int) :=
  (impl_in day 0 100000).bind fun y_1 =>
  if (!y_1) then
    some (0, 2)
  else
    ck (nz 7) <|
    some ((IntKind.i64.wrap ((day.tmod 7) + 1)), 0)

/-- spec.WeekdayOf -/
noncomputable def spec_WeekdayOf (day : Int) : Option (Int × Int) :=
  (spec_l00In day 0 100000).bind fun y_1 =>
  if (!y_1) then
    some (0, 2)
  else
    ck (nz 7) <|
    some ((IntKind.i64.wrap ((day.tmod 7) + 1)), 0)

/-- spec.DrawDateText -/
noncomputable def spec_DrawDateText (code : List UInt8) : Option Date :=
  (spec_l00From code).bind fun y_1 =>
  (spec_l03Bent y_1).bind fun y_2 =>
  some y_2.1


/-- strconv.FormatInt -/
noncomputable def strconv_FormatInt (i : Int) (base : Int) : Option (List UInt8) :=
  (hFmt i base).bind fun y_1 =>
  some y_1

/-- impl.Decimal -/
noncomputable def impl_Decimal (n : Int) : Option (List UInt8) :=
  (strconv_FormatInt n 10).bind fun y_1 =>
  some y_1

noncomputable def impl_padded_l1 (digits : Int) : (List UInt8) → Option ((List UInt8) ⊕ (List UInt8))
  | s_ =>
    if (decide ((s_.length : Int) < digits)) then
      ck (catOk ([48] : List UInt8).length s_.length) <|
      some (.inl (([48] : List UInt8) ++ s_))
    else
      some (.inr s_)

/-- impl.padded -/
noncomputable def impl_padded (n : Int) (digits : Int) : Option (List UInt8) :=
  (impl_Decimal n).bind fun y_1 =>
  (whileE (impl_padded_l1 digits) y_1).bind fun y_4 =>
  some y_4

/-- impl.DateText -/
noncomputable def impl_DateText (d : Date) : Option (List UInt8) :=
  (impl_ValidDate d).bind fun y_1 =>
  if (!y_1) then
    some ([] : List UInt8)
  else
    (impl_padded d.Year 4).bind fun y_3 =>
    ck (catOk y_3.length ([45] : List UInt8).length) <|
    (impl_padded d.Month 2).bind fun y_5 =>
    ck (catOk (y_3 ++ ([45] : List UInt8)).length y_5.length) <|
    ck (catOk ((y_3 ++ ([45] : List UInt8)) ++ y_5).length ([45] : List UInt8).length) <|
    (impl_padded d.Day 2).bind fun y_8 =>
    ck (catOk (((y_3 ++ ([45] : List UInt8)) ++ y_5) ++ ([45] : List UInt8)).length y_8.length) <|
    some ((((y_3 ++ ([45] : List UInt8)) ++ y_5) ++ ([45] : List UInt8)) ++ y_8)

/-- impl.twoDigits -/
noncomputable def impl_twoDigits (s_ : List UInt8) : Option Int :=
  ck (ixOk 0 s_.length) <|
  ck (ixOk 1 s_.length) <|
  some (IntKind.i64.wrap ((IntKind.i64.wrap ((IntKind.i64.wrap (IntKind.u8.wrap (((s_.getD 0 0).toNat : Int) - 48))) * 10)) + (IntKind.i64.wrap (IntKind.u8.wrap (((s_.getD 1 0).toNat : Int) - 48)))))

/-- impl.ReadDate -/
noncomputable def impl_ReadDate (s_ : List UInt8) : Option (Date × Bool) :=
  if (!((s_.length : Int) == 10)) then
    some ((Date.mk 0 0 0), false)
  else
    ck (cutOk 0 2 s_.length) <|
    (impl_twoDigits (cut s_ 0 2)).bind fun y_3 =>
    ck (cutOk 2 4 s_.length) <|
    (impl_twoDigits (cut s_ 2 4)).bind fun y_5 =>
    ck (cutOk 5 7 s_.length) <|
    (impl_twoDigits (cut s_ 5 7)).bind fun y_7 =>
    ck (cutOk 8 (s_.length : Int) s_.length) <|
    (impl_twoDigits (cut s_ 8 (s_.length : Int))).bind fun y_9 =>
    (impl_DateText (Date.mk (IntKind.i64.wrap ((IntKind.i64.wrap (y_3 * 100)) + y_5)) y_7 y_9)).bind fun y_10 =>
    if (!(y_10 == s_)) then
      some ((Date.mk 0 0 0), false)
    else
      some ((Date.mk (IntKind.i64.wrap ((IntKind.i64.wrap (y_3 * 100)) + y_5)) y_7 y_9), true)

/-- (*spec.l00Src).text -/
noncomputable def spec_l00Src_text (s_ : L00Src) (list : List (List UInt8)) : Option ((List UInt8) × L00Src) :=
  (spec_l00Src_pick s_ (list.length : Int)).bind fun y_1 =>
  ck (ixOk y_1.1 list.length) <|
  some ((list.getD y_1.1.toNat default), y_1.2)

noncomputable def spec_l01Dec_l1 (n : Int) : ((List UInt8) × Int) → Option (((List UInt8) × Int) ⊕ (List UInt8))
  | (out, k) =>
    if (!(k == 0)) then
      ck (nz 10) <|
      if (decide ((k.tmod 10) < 0)) then
        ck (appOk (([(toU8 (IntKind.u8.wrap (IntKind.i64.wrap (48 + (IntKind.i64.wrap (0 - (k.tmod 10)))))))] : List UInt8).length + out.length) 1) <|
        some (.inl ((([(toU8 (IntKind.u8.wrap (IntKind.i64.wrap (48 + (IntKind.i64.wrap (0 - (k.tmod 10)))))))] : List UInt8) ++ out), (IntKind.i64.wrap (k.tdiv 10))))
      else
        ck (appOk (([(toU8 (IntKind.u8.wrap (IntKind.i64.wrap (48 + (k.tmod 10)))))] : List UInt8).length + out.length) 1) <|
        some (.inl ((([(toU8 (IntKind.u8.wrap (IntKind.i64.wrap (48 + (k.tmod 10)))))] : List UInt8) ++ out), (IntKind.i64.wrap (k.tdiv 10))))
    else
      some (.inr out)

/-- spec.l01Dec -/
noncomputable def spec_l01Dec (n : Int) : Option (List UInt8) :=
  (whileE (spec_l01Dec_l1 n) (([] : List UInt8), n)).bind fun y_6 =>
  if ((y_6.length : Int) == 0) then
    some ([48] : List UInt8)
  else
    if (decide (n < 0)) then
      ck (catOk ([45] : List UInt8).length y_6.length) <|
      some (([45] : List UInt8) ++ y_6)
    else
      some y_6

/-- spec.l03Two -/
noncomputable def spec_l03Two (n : Int) : Option (List UInt8) :=
  ck (nz 10) <|
  (spec_l01Dec (IntKind.i64.wrap (n.tdiv 10))).bind fun y_2 =>
  (spec_l01Dec (n.tmod 10)).bind fun y_3 =>
  ck (catOk y_2.length y_3.length) <|
  some (y_2 ++ y_3)

/-- spec.l03Text -/
noncomputable def spec_l03Text (d : Date) : Option (List UInt8) :=
  (spec_l01Dec d.Year).bind fun y_1 =>
  ck (catOk y_1.length ([45] : List UInt8).length) <|
  (spec_l03Two d.Month).bind fun y_3 =>
  ck (catOk (y_1 ++ ([45] : List UInt8)).length y_3.length) <|
  ck (catOk ((y_1 ++ ([45] : List UInt8)) ++ y_3).length ([45] : List UInt8).length) <|
  (spec_l03Two d.Day).bind fun y_6 =>
  ck (catOk (((y_1 ++ ([45] : List UInt8)) ++ y_3) ++ ([45] : List UInt8)).length y_6.length) <|
  some ((((y_1 ++ ([45] : List UInt8)) ++ y_3) ++ ([45] : List UInt8)) ++ y_6)

/-- spec.l01Spoil -/
noncomputable def spec_l01Spoil (s_ : L00Src) (t : List UInt8) : Option ((List UInt8) × L00Src) :=
  (spec_l00Src_pick s_ 5).bind fun y_1 =>
  if (y_1.1 == 0) then
    (spec_l00Src_pick y_1.2 (IntKind.i64.wrap ((t.length : Int) + 1))).bind fun y_3 =>
    ck (cutOk 0 y_3.1 t.length) <|
    (spec_l00Src_text y_3.2 ([([32] : List UInt8), ([48] : List UInt8), ([45] : List UInt8), ([120] : List UInt8), ([49] : List UInt8), ([57] : List UInt8), ([46] : List UInt8)] : List (List UInt8))).bind fun y_5 =>
    ck (catOk (cut t 0 y_3.1).length y_5.1.length) <|
    ck (cutOk y_3.1 (t.length : Int) t.length) <|
    ck (catOk ((cut t 0 y_3.1) ++ y_5.1).length (cut t y_3.1 (t.length : Int)).length) <|
    some ((((cut t 0 y_3.1) ++ y_5.1) ++ (cut t y_3.1 (t.length : Int))), y_5.2)
  else
    if (y_1.1 == 1) then
      if (!(t == ([] : List UInt8))) then
        (spec_l00Src_pick y_1.2 (t.length : Int)).bind fun y_11 =>
        ck (cutOk 0 y_11.1 t.length) <|
        ck (cutOk (IntKind.i64.wrap (y_11.1 + 1)) (t.length : Int) t.length) <|
        ck (catOk (cut t 0 y_11.1).length (cut t (IntKind.i64.wrap (y_11.1 + 1)) (t.length : Int)).length) <|
        some (((cut t 0 y_11.1) ++ (cut t (IntKind.i64.wrap (y_11.1 + 1)) (t.length : Int))), y_11.2)
      else
        some (t, y_1.2)
    else
      some (t, y_1.2)

/-- spec.DrawReadDate -/
noncomputable def spec_DrawReadDate (code : List UInt8) : Option (List UInt8) :=
  (spec_l00From code).bind fun y_1 =>
  (spec_l03Bent y_1).bind fun y_2 =>
  (spec_ValidDate y_2.1).bind fun y_3 =>
  if (!y_3) then
    (spec_l00Src_text y_2.2 ([([] : List UInt8), ([50, 48, 48, 49, 45, 49, 45, 49] : List UInt8), ([50, 48, 48, 49, 45, 48, 50, 45, 50, 57] : List UInt8), ([50, 48, 48, 49, 45, 49, 51, 45, 48, 49] : List UInt8), ([50, 48, 48, 48, 45, 49, 50, 45, 51, 49] : List UInt8), ([50, 48, 48, 49, 47, 48, 49, 47, 48, 49] : List UInt8)] : List (List UInt8))).bind fun y_5 =>
    some y_5.1
  else
    (spec_l03Text y_2.1).bind fun y_6 =>
    (spec_l00Src_one y_2.2 3).bind fun y_7 =>
    if y_7.1 then
      (spec_l01Spoil y_7.2 y_6).bind fun y_9 =>
      some y_9.1
    else
      some y_6

/-- spec.l01Digit -/
noncomputable def spec_l01Digit (c : UInt8) : Option Bool :=
  some ((decide (48 ≤ (c.toNat : Int))) && (decide ((c.toNat : Int) ≤ 57)))

noncomputable def spec_l03Digits_l1 (s_ : List UInt8) : (Int × Int) → Option ((Int × Int) ⊕ (Int ⊕ (Int × Bool)))
  | (n, i) =>
    if (decide (i < (s_.length : Int))) then
      ck (ixOk i s_.length) <|
      (spec_l01Digit (s_.getD i.toNat 0)).bind fun y_3 =>
      if (!y_3) then
        some (.inr (.inr (0, false)))
      else
        some (.inl ((IntKind.i64.wrap ((IntKind.i64.wrap (10 * n)) + (IntKind.i64.wrap (IntKind.u8.wrap (((s_.getD i.toNat 0).toNat : Int) - 48))))), (IntKind.i64.wrap (i + 1))))
    else
      some (.inr (.inl n))

/-- spec.l03Digits -/
noncomputable def spec_l03Digits (s_ : List UInt8) : Option (Int × Bool) :=
  (whileE (spec_l03Digits_l1 s_) (0, 0)).bind fun y_5 =>
  match y_5 with
  | .inl y_5a =>
    some (y_5a, true)
  | .inr y_5b =>
    some (y_5b.1, y_5b.2)

/-- spec.ReadDate -/
noncomputable def spec_ReadDate (s_ : List UInt8) : Option (Date × Bool) :=
  ck (!(!(!((s_.length : Int) == 10))) || ixOk 4 s_.length) <|
  ck (!(!((!((s_.length : Int) == 10)) || (!(((s_.getD 4 0).toNat : Int) == 45)))) || ixOk 7 s_.length) <|
  if (((!((s_.length : Int) == 10)) || (!(((s_.getD 4 0).toNat : Int) == 45))) || (!(((s_.getD 7 0).toNat : Int) == 45))) then
    some ((Date.mk 0 0 0), false)
  else
    ck (cutOk 0 4 s_.length) <|
    (spec_l03Digits (cut s_ 0 4)).bind fun y_5 =>
    ck (cutOk 5 7 s_.length) <|
    (spec_l03Digits (cut s_ 5 7)).bind fun y_7 =>
    ck (cutOk 8 (s_.length : Int) s_.length) <|
    (spec_l03Digits (cut s_ 8 (s_.length : Int))).bind fun y_9 =>
    ck (!(!(((!y_5.2) || (!y_7.2)) || (!y_9.2))) || (spec_ValidDate (Date.mk y_5.1 y_7.1 y_9.1)).isSome) <|
    if ((((!y_5.2) || (!y_7.2)) || (!y_9.2)) || (!((spec_ValidDate (Date.mk y_5.1 y_7.1 y_9.1)).getD default))) then
      some ((Date.mk 0 0 0), false)
    else
      some ((Date.mk y_5.1 y_7.1 y_9.1), true)

/-- spec.DateText -/
noncomputable def spec_DateText (d : Date) : Option (List UInt8) :=
  (spec_ValidDate d).bind fun y_1 =>
  if (!y_1) then
    some ([] : List UInt8)
  else
    (spec_l03Text d).bind fun y_3 =>
    some y_3

/-- laws.FnDates -/
noncomputable def laws_FnDates (code : List UInt8) : Option Bool :=
  (laws_f6big code).bind fun y_1 =>
  if y_1 then
    some true
  else
    (spec_DrawDateOf code).bind fun y_3 =>
    (impl_DateOf y_3).bind fun y_4 =>
    (spec_DateOf y_3).bind fun y_5 =>
    (spec_DrawDayNumber code).bind fun y_6 =>
    (impl_DayNumber y_6).bind fun y_7 =>
    (spec_DayNumber y_6).bind fun y_8 =>
    (spec_DrawWeekdayOf code).bind fun y_9 =>
    (impl_WeekdayOf y_9).bind fun y_10 =>
    (spec_WeekdayOf y_9).bind fun y_11 =>
    (spec_DrawDateText code).bind fun y_12 =>
    (impl_DateText y_12).bind fun y_13 =>
    (impl_ReadDate y_13).bind fun y_14 =>
    (spec_DrawReadDate code).bind fun y_15 =>
    (impl_ReadDate y_15).bind fun y_16 =>
    (spec_ReadDate y_15).bind fun y_17 =>
    ck (!(!((((((!(y_4.2 == y_5.2)) || (!((y_4.1.Year == y_5.1.Year) && ((y_4.1.Month == y_5.1.Month) && (y_4.1.Day == y_5.1.Day))))) || (!(y_7.2 == y_8.2))) || (!(y_7.1 == y_8.1))) || (!(y_10.2 == y_11.2))) || (!(y_10.1 == y_11.1)))) || (spec_DateText y_12).isSome) <|
    ck (!(!(((((((((((!(y_4.2 == y_5.2)) || (!((y_4.1.Year == y_5.1.Year) && ((y_4.1.Month == y_5.1.Month) && (y_4.1.Day == y_5.1.Day))))) || (!(y_7.2 == y_8.2))) || (!(y_7.1 == y_8.1))) || (!(y_10.2 == y_11.2))) || (!(y_10.1 == y_11.1))) || (!(y_13 == ((spec_DateText y_12).getD default)))) || (!(y_14.2 == (!(y_13 == ([] : List UInt8)))))) || (y_14.2 && (!((y_14.1.Year == y_12.Year) && ((y_14.1.Month == y_12.Month) && (y_14.1.Day == y_12.Day)))))) || (!(y_16.2 == y_17.2))) || (!((y_16.1.Year == y_17.1.Year) && ((y_16.1.Month == y_17.1.Month) && (y_16.1.Day == y_17.1.Day)))))) || (impl_ValidDate y_6).isSome) <|
    ck (!(!(((((((((((!(y_4.2 == y_5.2)) || (!((y_4.1.Year == y_5.1.Year) && ((y_4.1.Month == y_5.1.Month) && (y_4.1.Day == y_5.1.Day))))) || (!(y_7.2 == y_8.2))) || (!(y_7.1 == y_8.1))) || (!(y_10.2 == y_11.2))) || (!(y_10.1 == y_11.1))) || (!(y_13 == ((spec_DateText y_12).getD default)))) || (!(y_14.2 == (!(y_13 == ([] : List UInt8)))))) || (y_14.2 && (!((y_14.1.Year == y_12.Year) && ((y_14.1.Month == y_12.Month) && (y_14.1.Day == y_12.Day)))))) || (!(y_16.2 == y_17.2))) || (!((y_16.1.Year == y_17.1.Year) && ((y_16.1.Month == y_17.1.Month) && (y_16.1.Day == y_17.1.Day)))))) || (spec_ValidDate y_6).isSome) <|
    if ((((((((((((!(y_4.2 == y_5.2)) || (!((y_4.1.Year == y_5.1.Year) && ((y_4.1.Month == y_5.1.Month) && (y_4.1.Day == y_5.1.Day))))) || (!(y_7.2 == y_8.2))) || (!(y_7.1 == y_8.1))) || (!(y_10.2 == y_11.2))) || (!(y_10.1 == y_11.1))) || (!(y_13 == ((spec_DateText y_12).getD default)))) || (!(y_14.2 == (!(y_13 == ([] : List UInt8)))))) || (y_14.2 && (!((y_14.1.Year == y_12.Year) && ((y_14.1.Month == y_12.Month) && (y_14.1.Day == y_12.Day)))))) || (!(y_16.2 == y_17.2))) || (!((y_16.1.Year == y_17.1.Year) && ((y_16.1.Month == y_17.1.Month) && (y_16.1.Day == y_17.1.Day))))) || (!(((impl_ValidDate y_6).getD default) == ((spec_ValidDate y_6).getD default)))) then
      some false
    else
      if (y_7.2 == 0) then
        (impl_DateOf y_7.1).bind fun y_23 =>
        if ((!(y_23.2 == 0)) || (!((y_23.1.Year == y_6.Year) && ((y_23.1.Month == y_6.Month) && (y_23.1.Day == y_6.Day))))) then
          some false
        else
          if (!(y_4.2 == 0)) then
            some true
          else
            (impl_DayNumber y_4.1).bind fun y_26 =>
            ck (!(!((!(y_26.2 == 0)) || (!(y_26.1 == y_3)))) || (impl_ValidDate y_4.1).isSome) <|
            if (((!(y_26.2 == 0)) || (!(y_26.1 == y_3))) || (!((impl_ValidDate y_4.1).getD default))) then
              some false
            else
              if (y_3 == 100000) then
                some true
              else
                (impl_DateOf (IntKind.i64.wrap (y_3 + 1))).bind fun y_30 =>
                some ((y_30.2 == 0) && ((decide (y_4.1.Year < y_30.1.Year)) || ((y_30.1.Year == y_4.1.Year) && ((decide (y_4.1.Month < y_30.1.Month)) || ((y_30.1.Month == y_4.1.Month) && (y_30.1.Day == (IntKind.i64.wrap (y_4.1.Day + 1))))))))
      else
        if (!(y_4.2 == 0)) then
          some true
        else
          (impl_DayNumber y_4.1).bind fun y_32 =>
          ck (!(!((!(y_32.2 == 0)) || (!(y_32.1 == y_3)))) || (impl_ValidDate y_4.1).isSome) <|
          if (((!(y_32.2 == 0)) || (!(y_32.1 == y_3))) || (!((impl_ValidDate y_4.1).getD default))) then
            some false
          else
            if (y_3 == 100000) then
              some true
            else
              (impl_DateOf (IntKind.i64.wrap (y_3 + 1))).bind fun y_36 =>
              some ((y_36.2 == 0) && ((decide (y_4.1.Year < y_36.1.Year)) || ((y_36.1.Year == y_4.1.Year) && ((decide (y_4.1.Month < y_36.1.Month)) || ((y_36.1.Month == y_4.1.Month) && (y_36.1.Day == (IntKind.i64.wrap (y_4.1.Day + 1))))))))

/-- spec.DrawTimeOf -/
noncomputable def spec_DrawTimeOf (code : List UInt8) : Option (Int × Int × Int) :=
  (spec_l00From code).bind fun y_1 =>
  (spec_l00Src_pick y_1 1002).bind fun y_2 =>
  (spec_l00Src_one y_2.2 10).bind fun y_3 =>
  if y_3.1 then
    (spec_l03Day y_3.2).bind fun y_5 =>
    (spec_l00Src_pick y_5.2 25).bind fun y_6 =>
    (spec_l00Src_pick y_6.2 16).bind fun y_7 =>
    ck (nz 15) <|
    (spec_l00Src_pick y_7.2 61).bind fun y_9 =>
    (spec_l00Src_pick y_9.2 16).bind fun y_10 =>
    some (y_5.1, (IntKind.i64.wrap (y_6.1 - (IntKind.i64.wrap (y_7.1.tdiv 15)))), (IntKind.i64.wrap (y_9.1 - (IntKind.i64.wrap (y_10.1.tdiv 15)))))
  else
    (spec_l00Src_pick y_3.2 25).bind fun y_11 =>
    (spec_l00Src_pick y_11.2 16).bind fun y_12 =>
    ck (nz 15) <|
    (spec_l00Src_pick y_12.2 61).bind fun y_14 =>
    (spec_l00Src_pick y_14.2 16).bind fun y_15 =>
    some (y_2.1, (IntKind.i64.wrap (y_11.1 - (IntKind.i64.wrap (y_12.1.tdiv 15)))), (IntKind.i64.wrap (y_14.1 - (IntKind.i64.wrap (y_15.1.tdiv 15)))))

/-- impl.floorDiv -/
noncomputable def impl_floorDiv (a : Int) (b : Int) : Option Int :=
  ck (nz b) <|
  if (decide ((a.tmod b) < 0)) then
    some (IntKind.i64.wrap ((IntKind.i64.wrap (a.tdiv b)) - 1))
  else
    some (IntKind.i64.wrap (a.tdiv b))

/-- impl.ceilDiv -/
noncomputable def impl_ceilDiv (a : Int) (b : Int) : Option Int :=
  (impl_floorDiv (IntKind.i64.wrap (0 - a)) b).bind fun y_1 =>
  some (IntKind.i64.wrap (0 - y_1))

/-- impl.TimeOf -/
noncomputable def impl_TimeOf (day : Int) (hour : Int) (minute : Int) : Option (Int × Int) :=
  (impl_in day 0 100000).bind fun y_1 =>
  ck (!(!(!y_1)) || (impl_in hour 0 23).isSome) <|
  ck (!(!((!y_1) || (!((impl_in hour 0 23).getD default)))) || (impl_in minute 0 59).isSome) <|
  if (((!y_1) || (!((impl_in hour 0 23).getD default))) || (!((impl_in minute 0 59).getD default))) then
    some (0, 2)
  else
    (impl_ceilDiv (IntKind.i64.wrap ((IntKind.i64.wrap ((IntKind.i64.wrap (hour * 60)) + minute)) * 10000)) 1440).bind fun y_5 =>
    if (decide (10000000 < (IntKind.i64.wrap ((IntKind.i64.wrap (day * 10000)) + y_5)))) then
      some (0, 5)
    else
      some ((IntKind.i64.wrap ((IntKind.i64.wrap (day * 10000)) + y_5)), 0)

/-- spec.l03Time -/
noncomputable def spec_l03Time (t : Int) : Option Bool :=
  (spec_l00In t 0 10000000).bind fun y_1 =>
  some y_1

/-- spec.TimeOf -/
noncomputable def spec_TimeOf (day : Int) (hour : Int) (minute : Int) : Option (Int × Int) :=
  (spec_l00In day 0 100000).bind fun y_1 =>
  ck (!(!(!y_1)) || (spec_l00In hour 0 23).isSome) <|
  ck (!(!((!y_1) || (!((spec_l00In hour 0 23).getD default)))) || (spec_l00In minute 0 59).isSome) <|
  if (((!y_1) || (!((spec_l00In hour 0 23).getD default))) || (!((spec_l00In minute 0 59).getD default))) then
    some (0, 2)
  else
    ck (nz 1440) <|
    (spec_l03Time (IntKind.i64.wrap ((IntKind.i64.wrap (day * 10000)) + (IntKind.i64.wrap ((IntKind.i64.wrap ((IntKind.i64.wrap ((IntKind.i64.wrap ((IntKind.i64.wrap (60 * hour)) + minute)) * 10000)) + 1439)).tdiv 1440))))).bind fun y_6 =>
    if (!y_6) then
      some (0, 5)
    else
      some ((IntKind.i64.wrap ((IntKind.i64.wrap (day * 10000)) + (IntKind.i64.wrap ((IntKind.i64.wrap ((IntKind.i64.wrap ((IntKind.i64.wrap ((IntKind.i64.wrap (60 * hour)) + minute)) * 10000)) + 1439)).tdiv 1440)))), 0)

/-- spec.l03When -/
noncomputable def spec_l03When (s_ : L00Src) : Option (Int × L00Src) :=
  (spec_l00Src_one s_ 10).bind fun y_1 =>
  if y_1.1 then
    (spec_l00Src_among y_1.2 ([(-1), 0, 10000000, 10000001, (-9223372036854775808)] : List Int)).bind fun y_3 =>
    some (y_3.1, y_3.2)
  else
    (spec_l00Src_pick y_1.2 999).bind fun y_4 =>
    (spec_l00Src_pick y_4.2 10000).bind fun y_5 =>
    some ((IntKind.i64.wrap ((IntKind.i64.wrap (y_4.1 * 10000)) + y_5.1)), y_5.2)

/-- spec.DrawClockOf -/
noncomputable def spec_DrawClockOf (code : List UInt8) : Option Int :=
  (spec_l00From code).bind fun y_1 =>
  (spec_l03When y_1).bind fun y_2 =>
  some y_2.1

/-- impl.ValidTime -/
noncomputable def impl_ValidTime (t : Int) : Option Bool :=
  (impl_in t 0 10000000).bind fun y_1 =>
  some y_1

/-- impl.ClockOf -/
noncomputable def impl_ClockOf (t : Int) : Option (Int × Int × Int) :=
  (impl_ValidTime t).bind fun y_1 =>
  if (!y_1) then
    some (0, 0, 2)
  else
    ck (nz 10000) <|
    ck (nz 60) <|
    some ((IntKind.i64.wrap ((IntKind.i64.wrap ((IntKind.i64.wrap ((t.tmod 10000) * 1440)).tdiv 10000)).tdiv 60)), ((IntKind.i64.wrap ((IntKind.i64.wrap ((t.tmod 10000) * 1440)).tdiv 10000)).tmod 60), 0)

/-- spec.ClockOf -/
noncomputable def spec_ClockOf (t : Int) : Option (Int × Int × Int) :=
  (spec_l03Time t).bind fun y_1 =>
  if (!y_1) then
    some (0, 0, 2)
  else
    ck (nz 10000) <|
    ck (nz 60) <|
    some ((IntKind.i64.wrap ((IntKind.i64.wrap ((IntKind.i64.wrap ((t.tmod 10000) * 1440)).tdiv 10000)).tdiv 60)), ((IntKind.i64.wrap ((IntKind.i64.wrap ((t.tmod 10000) * 1440)).tdiv 10000)).tmod 60), 0)

/-- spec.DrawDayOf -/
noncomputable def spec_DrawDayOf (code : List UInt8) : Option Int :=
  (spec_l00From code).bind fun y_1 =>
  (spec_l03When y_1).bind fun y_2 =>
  some y_2.1

/-- impl.DayOf -/
noncomputable def impl_DayOf (t : Int) : Option (Int × Int) :=
  (impl_ValidTime t).bind fun y_1 =>
  if (!y_1) then
    some (0, 2)
  else
    ck (nz 10000) <|
    some ((IntKind.i64.wrap (t.tdiv 10000)), 0)

/-- spec.DayOf -/
noncomputable def spec_DayOf (t : Int) : Option (Int × Int) :=
  (spec_l03Time t).bind fun y_1 =>
  if (!y_1) then
    some (0, 2)
  else
    ck (nz 10000) <|
    some ((IntKind.i64.wrap (t.tdiv 10000)), 0)

/-- spec.DrawHoursBetween -/
noncomputable def spec_DrawHoursBetween (code : List UInt8) : Option (Int × Int) :=
  (spec_l00From code).bind fun y_1 =>
  (spec_l03When y_1).bind fun y_2 =>
  (spec_l03When y_2.2).bind fun y_3 =>
  some (y_2.1, y_3.1)

/-- impl.abs -/
noncomputable def impl_abs (n : Int) : Option Int :=
  if (decide (n < 0)) then
    some (IntKind.i64.wrap (0 - n))
  else
    some n

noncomputable def impl_gcd_l1  : (Int × Int) → Option ((Int × Int) ⊕ Int)
  | (a, b) =>
    if (!(b == 0)) then
      ck (nz b) <|
      some (.inl (b, (a.tmod b)))
    else
      some (.inr a)

/-- impl.gcd -/
noncomputable def impl_gcd (a : Int) (b : Int) : Option Int :=
  (whileE (impl_gcd_l1) (a, b)).bind fun y_3 =>
  (impl_abs y_3).bind fun y_4 =>
  some y_4

/-- impl.lowest -/
noncomputable def impl_lowest (num : Int) (den : Int) : Option Fraction :=
  (impl_gcd num den).bind fun y_1 =>
  if (decide (den < 0)) then
    ck (nz (IntKind.i64.wrap (0 - y_1))) <|
    some (Fraction.mk (IntKind.i64.wrap (num.tdiv (IntKind.i64.wrap (0 - y_1)))) (IntKind.i64.wrap (den.tdiv (IntKind.i64.wrap (0 - y_1)))))
  else
    ck (nz y_1) <|
    some (Fraction.mk (IntKind.i64.wrap (num.tdiv y_1)) (IntKind.i64.wrap (den.tdiv y_1)))

/-- impl.HoursBetween -/
noncomputable def impl_HoursBetween (a : Int) (b : Int) : Option (Fraction × Int) :=
  (impl_ValidTime a).bind fun y_1 =>
  ck (!(!(!y_1)) || (impl_ValidTime b).isSome) <|
  if ((!y_1) || (!((impl_ValidTime b).getD default))) then
    some ((Fraction.mk 0 0), 2)
  else
    (impl_lowest (IntKind.i64.wrap (24 * (IntKind.i64.wrap (b - a)))) 10000).bind fun y_4 =>
    some (y_4, 0)

/-- spec.l02Size -/
noncomputable def spec_l02Size (n : Int) : Option Int :=
  if (decide (n < 0)) then
    some (IntKind.i64.wrap (0 - n))
  else
    some n

noncomputable def spec_l02Gcd_l1  : (Int × Int) → Option ((Int × Int) ⊕ Int)
  | (a, b) =>
    if (!(b == 0)) then
      ck (nz b) <|
      some (.inl (b, (a.tmod b)))
    else
      some (.inr a)

/-- spec.l02Gcd -/
noncomputable def spec_l02Gcd (a : Int) (b : Int) : Option Int :=
  (whileE (spec_l02Gcd_l1) (a, b)).bind fun y_3 =>
  some y_3

/-- spec.l02Make -/
noncomputable def spec_l02Make (num : Int) (den : Int) : Option Fraction :=
  (spec_l02Size num).bind fun y_1 =>
  (spec_l02Gcd y_1 den).bind fun y_2 =>
  ck (nz y_2) <|
  some (Fraction.mk (IntKind.i64.wrap (num.tdiv y_2)) (IntKind.i64.wrap (den.tdiv y_2)))

/-- spec.HoursBetween -/
noncomputable def spec_HoursBetween (a : Int) (b : Int) : Option (Fraction × Int) :=
  (spec_l03Time a).bind fun y_1 =>
  ck (!(!(!y_1)) || (spec_l03Time b).isSome) <|
  if ((!y_1) || (!((spec_l03Time b).getD default))) then
    some ((Fraction.mk 0 0), 2)
  else
    (spec_l02Make (IntKind.i64.wrap (24 * (IntKind.i64.wrap (b - a)))) 10000).bind fun y_4 =>
    some (y_4, 0)

/-- spec.DrawTimeText -/
noncomputable def spec_DrawTimeText (code : List UInt8) : Option Int :=
  (spec_l00From code).bind fun y_1 =>
  (spec_l03When y_1).bind fun y_2 =>
  some y_2.1

/-- impl.TimeText -/
noncomputable def impl_TimeText (t : Int) : Option (List UInt8) :=
  (impl_ValidTime t).bind fun y_1 =>
  if (!y_1) then
    some ([] : List UInt8)
  else
    ck (nz 10000) <|
    (impl_Decimal (IntKind.i64.wrap (t.tdiv 10000))).bind fun y_4 =>
    ck (catOk y_4.length ([46] : List UInt8).length) <|
    (impl_padded (t.tmod 10000) 4).bind fun y_6 =>
    ck (catOk (y_4 ++ ([46] : List UInt8)).length y_6.length) <|
    some ((y_4 ++ ([46] : List UInt8)) ++ y_6)



/-- impl.ReadTime -/
noncomputable def impl_ReadTime (s_ : List UInt8) : Option (Int × Bool) :=
  (hCut s_ ([46] : List UInt8)).bind fun y_1 =>
  (hRdDec y_1.1).bind fun y_2 =>
  ck (!(!(!y_2.2)) || (impl_in y_2.1 0 1000).isSome) <|
  if (((!y_2.2) || (!((impl_in y_2.1 0 1000).getD default))) || (!((y_1.2.1.length : Int) == 4))) then
    some (0, false)
  else
    ck (cutOk 0 2 y_1.2.1.length) <|
    (impl_twoDigits (cut y_1.2.1 0 2)).bind fun y_6 =>
    ck (cutOk 2 (y_1.2.1.length : Int) y_1.2.1.length) <|
    (impl_twoDigits (cut y_1.2.1 2 (y_1.2.1.length : Int))).bind fun y_8 =>
    (impl_TimeText (IntKind.i64.wrap ((IntKind.i64.wrap ((IntKind.i64.wrap (y_2.1 * 10000)) + (IntKind.i64.wrap (y_6 * 100)))) + y_8))).bind fun y_9 =>
    if (!(y_9 == s_)) then
      some (0, false)
    else
      some ((IntKind.i64.wrap ((IntKind.i64.wrap ((IntKind.i64.wrap (y_2.1 * 10000)) + (IntKind.i64.wrap (y_6 * 100)))) + y_8)), true)

/-- spec.l03Four -/
noncomputable def spec_l03Four (n : Int) : Option (List UInt8) :=
  ck (nz 100) <|
  (spec_l03Two ((IntKind.i64.wrap (n.tdiv 100)).tmod 100)).bind fun y_2 =>
  (spec_l03Two (n.tmod 100)).bind fun y_3 =>
  ck (catOk y_2.length y_3.length) <|
  some (y_2 ++ y_3)

/-- spec.TimeText -/
noncomputable def spec_TimeText (t : Int) : Option (List UInt8) :=
  (spec_l03Time t).bind fun y_1 =>
  if (!y_1) then
    some ([] : List UInt8)
  else
    ck (nz 10000) <|
    (spec_l01Dec (IntKind.i64.wrap (t.tdiv 10000))).bind fun y_4 =>
    ck (catOk y_4.length ([46] : List UInt8).length) <|
    (spec_l03Four (t.tmod 10000)).bind fun y_6 =>
    ck (catOk (y_4 ++ ([46] : List UInt8)).length y_6.length) <|
    some ((y_4 ++ ([46] : List UInt8)) ++ y_6)

/-- spec.DrawReadTime -/
noncomputable def spec_DrawReadTime (code : List UInt8) : Option (List UInt8) :=
  (spec_l00From code).bind fun y_1 =>
  (spec_l03When y_1).bind fun y_2 =>
  (spec_TimeText y_2.1).bind fun y_3 =>
  (spec_l00Src_one y_2.2 3).bind fun y_4 =>
  if y_4.1 then
    (spec_l01Spoil y_4.2 y_3).bind fun y_6 =>
    some y_6.1
  else
    (spec_l00Src_one y_4.2 8).bind fun y_7 =>
    if y_7.1 then
      (spec_l00Src_text y_7.2 ([([] : List UInt8), ([49] : List UInt8), ([49, 46, 53] : List UInt8), ([48, 49, 46, 48, 48, 48, 48] : List UInt8), ([45, 49, 46, 48, 48, 48, 48] : List UInt8), ([49, 48, 48, 48, 46, 48, 48, 48, 49] : List UInt8), ([49, 48, 48, 48, 46, 48, 48, 48, 48] : List UInt8), ([49, 46, 48, 48, 48, 48, 48] : List UInt8)] : List (List UInt8))).bind fun y_9 =>
      some y_9.1
    else
      some y_3

noncomputable def spec_l01Split_l1 (s_ : List UInt8) (by_ : UInt8) : ((List (List UInt8)) × Int × Int) → Option (((List (List UInt8)) × Int × Int) ⊕ ((List (List UInt8)) × Int))
  | (out, from_, i) =>
    if (decide (i < (s_.length : Int))) then
      ck (ixOk i s_.length) <|
      if (((s_.getD i.toNat 0).toNat : Int) == (by_.toNat : Int)) then
        ck (cutOk from_ i s_.length) <|
        ck (appOk (out.length + ([(cut s_ from_ i)] : List (List UInt8)).length) 16) <|
        some (.inl ((out ++ ([(cut s_ from_ i)] : List (List UInt8))), (IntKind.i64.wrap (i + 1)), (IntKind.i64.wrap (i + 1))))
      else
        some (.inl (out, from_, (IntKind.i64.wrap (i + 1))))
    else
      some (.inr (out, from_))

/-- spec.l01Split -/
noncomputable def spec_l01Split (s_ : List UInt8) (by_ : UInt8) : Option (List (List UInt8)) :=
  (whileE (spec_l01Split_l1 s_ by_) (([] : List (List UInt8)), 0, 0)).bind fun y_6 =>
  ck (cutOk y_6.2 (s_.length : Int) s_.length) <|
  ck (appOk (y_6.1.length + ([(cut s_ y_6.2 (s_.length : Int))] : List (List UInt8)).length) 16) <|
  some (y_6.1 ++ ([(cut s_ y_6.2 (s_.length : Int))] : List (List UInt8)))

noncomputable def spec_l01Number_l1 (s_ : List UInt8) (t : List UInt8) : (Int × Int) → Option ((Int × Int) ⊕ (Int ⊕ (Int × Bool)))
  | (n, i) =>
    if (decide (i < (t.length : Int))) then
      ck (ixOk i t.length) <|
      (spec_l01Digit (t.getD i.toNat 0)).bind fun y_7 =>
      if (!y_7) then
        some (.inr (.inr (0, false)))
      else
        some (.inl ((IntKind.i64.wrap ((IntKind.i64.wrap (10 * n)) + (IntKind.i64.wrap (IntKind.u8.wrap (((t.getD i.toNat 0).toNat : Int) - 48))))), (IntKind.i64.wrap (i + 1))))
    else
      some (.inr (.inl n))

noncomputable def spec_l01Number_l2 (s_ : List UInt8) (t : List UInt8) : (Int × Int) → Option ((Int × Int) ⊕ (Int ⊕ (Int × Bool)))
  | (n, i) =>
    if (decide (i < (t.length : Int))) then
      ck (ixOk i t.length) <|
      (spec_l01Digit (t.getD i.toNat 0)).bind fun y_18 =>
      if (!y_18) then
        some (.inr (.inr (0, false)))
      else
        some (.inl ((IntKind.i64.wrap ((IntKind.i64.wrap (10 * n)) + (IntKind.i64.wrap (IntKind.u8.wrap (((t.getD i.toNat 0).toNat : Int) - 48))))), (IntKind.i64.wrap (i + 1))))
    else
      some (.inr (.inl n))

/-- spec.l01Number -/
noncomputable def spec_l01Number (s_ : List UInt8) : Option (Int × Bool) :=
  ck (!(!(s_ == ([] : List UInt8))) || ixOk 0 s_.length) <|
  if ((!(s_ == ([] : List UInt8))) && (((s_.getD 0 0).toNat : Int) == 45)) then
    ck (cutOk 1 (s_.length : Int) s_.length) <|
    if ((decide (((cut s_ 1 (s_.length : Int)).length : Int) < 1)) || (decide (18 < ((cut s_ 1 (s_.length : Int)).length : Int)))) then
      some (0, false)
    else
      (whileE (spec_l01Number_l1 s_ (cut s_ 1 (s_.length : Int))) (0, 0)).bind fun y_9 =>
      match y_9 with
      | .inl y_9a =>
        if (decide (((cut s_ 1 (s_.length : Int)).length : Int) < (s_.length : Int))) then
          (spec_l01Dec (IntKind.i64.wrap (0 - y_9a))).bind fun y_11 =>
          if (!(y_11 == s_)) then
            some (0, false)
          else
            some ((IntKind.i64.wrap (0 - y_9a)), true)
        else
          (spec_l01Dec y_9a).bind fun y_13 =>
          if (!(y_13 == s_)) then
            some (0, false)
          else
            some (y_9a, true)
      | .inr y_9b =>
        some (y_9b.1, y_9b.2)
  else
    if ((decide ((s_.length : Int) < 1)) || (decide (18 < (s_.length : Int)))) then
      some (0, false)
    else
      (whileE (spec_l01Number_l2 s_ s_) (0, 0)).bind fun y_20 =>
      match y_20 with
      | .inl y_20a =>
        if (decide ((s_.length : Int) < (s_.length : Int))) then
          (spec_l01Dec (IntKind.i64.wrap (0 - y_20a))).bind fun y_22 =>
          if (!(y_22 == s_)) then
            some (0, false)
          else
            some ((IntKind.i64.wrap (0 - y_20a)), true)
        else
          (spec_l01Dec y_20a).bind fun y_24 =>
          if (!(y_24 == s_)) then
            some (0, false)
          else
            some (y_20a, true)
      | .inr y_20b =>
        some (y_20b.1, y_20b.2)

/-- spec.ReadTime -/
noncomputable def spec_ReadTime (s_ : List UInt8) : Option (Int × Bool) :=
  (spec_l01Split s_ (46 : UInt8)).bind fun y_1 =>
  ck (!(!(!((y_1.length : Int) == 2))) || ixOk 1 y_1.length) <|
  if ((!((y_1.length : Int) == 2)) || (!(((y_1.getD 1 default).length : Int) == 4))) then
    some (0, false)
  else
    ck (ixOk 0 y_1.length) <|
    (spec_l01Number (y_1.getD 0 default)).bind fun y_5 =>
    ck (ixOk 1 y_1.length) <|
    (spec_l03Digits (y_1.getD 1 default)).bind fun y_7 =>
    ck (!(!((!y_5.2) || (!y_7.2))) || (spec_l00In y_5.1 0 1000).isSome) <|
    ck (!(!(((!y_5.2) || (!y_7.2)) || (!((spec_l00In y_5.1 0 1000).getD default)))) || (spec_l03Time (IntKind.i64.wrap ((IntKind.i64.wrap (y_5.1 * 10000)) + y_7.1))).isSome) <|
    if ((((!y_5.2) || (!y_7.2)) || (!((spec_l00In y_5.1 0 1000).getD default))) || (!((spec_l03Time (IntKind.i64.wrap ((IntKind.i64.wrap (y_5.1 * 10000)) + y_7.1))).getD default))) then
      some (0, false)
    else
      some ((IntKind.i64.wrap ((IntKind.i64.wrap (y_5.1 * 10000)) + y_7.1)), true)

/-- spec.ValidTime -/
noncomputable def spec_ValidTime (t : Int) : Option Bool :=
  (spec_l03Time t).bind fun y_1 =>
  some y_1

/-- laws.FnClocks -/
noncomputable def laws_FnClocks (code : List UInt8) : Option Bool :=
  (laws_f6big code).bind fun y_1 =>
  if y_1 then
    some true
  else
    (spec_DrawTimeOf code).bind fun y_3 =>
    (impl_TimeOf y_3.1 y_3.2.1 y_3.2.2).bind fun y_4 =>
    (spec_TimeOf y_3.1 y_3.2.1 y_3.2.2).bind fun y_5 =>
    (spec_DrawClockOf code).bind fun y_6 =>
    (impl_ClockOf y_6).bind fun y_7 =>
    (spec_ClockOf y_6).bind fun y_8 =>
    (spec_DrawDayOf code).bind fun y_9 =>
    (impl_DayOf y_9).bind fun y_10 =>
    (spec_DayOf y_9).bind fun y_11 =>
    (spec_DrawHoursBetween code).bind fun y_12 =>
    (impl_HoursBetween y_12.1 y_12.2).bind fun y_13 =>
    (spec_HoursBetween y_12.1 y_12.2).bind fun y_14 =>
    (impl_HoursBetween y_12.2 y_12.1).bind fun y_15 =>
    (spec_DrawTimeText code).bind fun y_16 =>
    (impl_TimeText y_16).bind fun y_17 =>
    (impl_ReadTime y_17).bind fun y_18 =>
    (spec_DrawReadTime code).bind fun y_19 =>
    (impl_ReadTime y_19).bind fun y_20 =>
    (spec_ReadTime y_19).bind fun y_21 =>
    ck (!(!((((((((((!(y_4.2 == y_5.2)) || (!(y_4.1 == y_5.1))) || (!(y_7.2.2 == y_8.2.2))) || (!(y_7.1 == y_8.1))) || (!(y_7.2.1 == y_8.2.1))) || (!(y_10.2 == y_11.2))) || (!(y_10.1 == y_11.1))) || (!(y_13.2 == y_14.2))) || (!((y_13.1.Num == y_14.1.Num) && (y_13.1.Den == y_14.1.Den)))) || (!(y_15.2 == y_14.2)))) || (spec_TimeText y_16).isSome) <|
    ck (!(!(((((((((((((((!(y_4.2 == y_5.2)) || (!(y_4.1 == y_5.1))) || (!(y_7.2.2 == y_8.2.2))) || (!(y_7.1 == y_8.1))) || (!(y_7.2.1 == y_8.2.1))) || (!(y_10.2 == y_11.2))) || (!(y_10.1 == y_11.1))) || (!(y_13.2 == y_14.2))) || (!((y_13.1.Num == y_14.1.Num) && (y_13.1.Den == y_14.1.Den)))) || (!(y_15.2 == y_14.2))) || (!(y_17 == ((spec_TimeText y_16).getD default)))) || (!(y_18.2 == (!(y_17 == ([] : List UInt8)))))) || (y_18.2 && (!(y_18.1 == y_16)))) || (!(y_20.2 == y_21.2))) || (!(y_20.1 == y_21.1)))) || (impl_ValidTime y_6).isSome) <|
    ck (!(!(((((((((((((((!(y_4.2 == y_5.2)) || (!(y_4.1 == y_5.1))) || (!(y_7.2.2 == y_8.2.2))) || (!(y_7.1 == y_8.1))) || (!(y_7.2.1 == y_8.2.1))) || (!(y_10.2 == y_11.2))) || (!(y_10.1 == y_11.1))) || (!(y_13.2 == y_14.2))) || (!((y_13.1.Num == y_14.1.Num) && (y_13.1.Den == y_14.1.Den)))) || (!(y_15.2 == y_14.2))) || (!(y_17 == ((spec_TimeText y_16).getD default)))) || (!(y_18.2 == (!(y_17 == ([] : List UInt8)))))) || (y_18.2 && (!(y_18.1 == y_16)))) || (!(y_20.2 == y_21.2))) || (!(y_20.1 == y_21.1)))) || (spec_ValidTime y_6).isSome) <|
    if ((((((((((((((((!(y_4.2 == y_5.2)) || (!(y_4.1 == y_5.1))) || (!(y_7.2.2 == y_8.2.2))) || (!(y_7.1 == y_8.1))) || (!(y_7.2.1 == y_8.2.1))) || (!(y_10.2 == y_11.2))) || (!(y_10.1 == y_11.1))) || (!(y_13.2 == y_14.2))) || (!((y_13.1.Num == y_14.1.Num) && (y_13.1.Den == y_14.1.Den)))) || (!(y_15.2 == y_14.2))) || (!(y_17 == ((spec_TimeText y_16).getD default)))) || (!(y_18.2 == (!(y_17 == ([] : List UInt8)))))) || (y_18.2 && (!(y_18.1 == y_16)))) || (!(y_20.2 == y_21.2))) || (!(y_20.1 == y_21.1))) || (!(((impl_ValidTime y_6).getD default) == ((spec_ValidTime y_6).getD default)))) then
      some false
    else
      if ((y_13.2 == 0) && ((!(y_13.1.Num == (IntKind.i64.wrap (0 - y_15.1.Num)))) || (!(y_13.1.Den == y_15.1.Den)))) then
        some false
      else
        if (!(y_4.2 == 0)) then
          some true
        else
          (impl_ClockOf y_4.1).bind fun y_28 =>
          (impl_DayOf y_4.1).bind fun y_29 =>
          if (((((!(y_28.2.2 == 0)) || (!(y_28.1 == y_3.2.1))) || (!(y_28.2.1 == y_3.2.2))) || (!(y_29.2 == 0))) || (!(y_29.1 == y_3.1))) then
            some false
          else
            ck (nz 10000) <|
            if ((y_4.1.tmod 10000) == 0) then
              some true
            else
              (impl_ClockOf (IntKind.i64.wrap (y_4.1 - 1))).bind fun y_33 =>
              some ((y_33.2.2 == 0) && ((!(y_33.1 == y_3.2.1)) || (!(y_33.2.1 == y_3.2.2))))

end Go.Proofs.YtmpmmodbigjdgaaDoor
