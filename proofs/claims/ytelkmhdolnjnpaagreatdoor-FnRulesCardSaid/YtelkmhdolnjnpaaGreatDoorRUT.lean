/- Typed forms of the functions that RU reaches. No condition. -/
import Derived.Test.YtelkmhdolnjnpaaGreatDoorEngSI
namespace Go.Proofs.YtelkmhdolnjnpaaGreatDoor
open Go Go.RowKit
set_option linter.unusedVariables false

structure Rule where
  Class : List UInt8
  FromAmp : Int
  ToAmp : Int
  FromPer : Int
  ToPer : Int
  Shape : Int
  deriving Inhabited, DecidableEq
def Rule_av (x : Rule) : AV := .agg ([.str x.Class, .int .i64 x.FromAmp, .int .i64 x.ToAmp, .int .i64 x.FromPer, .int .i64 x.ToPer, .int .i64 x.Shape])

structure L00Src where
  code_ : List UInt8
  at_ : Int
  seed_ : Int
  deriving Inhabited, DecidableEq
def L00Src_av (x : L00Src) : AV := .agg ([.sl 1 (List.map byteAV x.code_), .int .i64 x.at_, .int .u64 x.seed_])

structure Facts where
  Amp : Int
  Period : Int
  Shape : Int
  deriving Inhabited, DecidableEq
def Facts_av (x : Facts) : AV := .agg ([.int .i64 x.Amp, .int .i64 x.Period, .int .i64 x.Shape])

attribute [go_sem] Rule_av L00Src_av Facts_av

/-- laws.f6big -/
noncomputable def laws_f6big (code : List UInt8) : Option Bool :=
  some (decide (4096 < (code.length : Int)))

/-- spec.l00From -/
noncomputable def spec_l00From (code : List UInt8) : Option L00Src :=
  some (L00Src.mk code 0 0)

/-- (*spec.l00Src).next -/
noncomputable def spec_l00Src_next (s_ : L00Src) : Option (Int × L00Src) :=
  if (decide (s_.at_ < (s_.code_.length : Int))) then
    ck (ixOk s_.at_ s_.code_.length) <|
    if (decide ((IntKind.i64.wrap (s_.at_ + 1)) ≤ (s_.code_.length : Int))) then
      some (((s_.code_.getD s_.at_.toNat default).toNat : Int), (L00Src.mk s_.code_ (IntKind.i64.wrap (s_.at_ + 1)) (IntKind.u64.wrap ((IntKind.u64.wrap ((IntKind.u64.wrap (s_.seed_ * 6364136223846793005)) + (IntKind.u64.wrap ((s_.code_.getD s_.at_.toNat default).toNat : Int)))) + 1442695040888963407))))
    else
      ck (shOk 40) <|
      some ((IntKind.i64.wrap (IntKind.u64.wrap (BitVec.ofInt (IntKind.bits .u64) ((IntKind.u64.wrap ((IntKind.u64.wrap ((IntKind.u64.wrap (s_.seed_ * 6364136223846793005)) + (IntKind.u64.wrap ((s_.code_.getD s_.at_.toNat default).toNat : Int)))) + 1442695040888963407)).fdiv (2 ^ (min 40 64))) &&& BitVec.ofInt (IntKind.bits .u64) 255).toNat)), (L00Src.mk s_.code_ (IntKind.i64.wrap (s_.at_ + 1)) (IntKind.u64.wrap ((IntKind.u64.wrap ((IntKind.u64.wrap (s_.seed_ * 6364136223846793005)) + (IntKind.u64.wrap ((s_.code_.getD s_.at_.toNat default).toNat : Int)))) + 1442695040888963407))))
  else
    if (decide ((IntKind.i64.wrap (s_.at_ + 1)) ≤ (s_.code_.length : Int))) then
      some (0, (L00Src.mk s_.code_ (IntKind.i64.wrap (s_.at_ + 1)) (IntKind.u64.wrap ((IntKind.u64.wrap ((IntKind.u64.wrap (s_.seed_ * 6364136223846793005)) + (IntKind.u64.wrap 0))) + 1442695040888963407))))
    else
      ck (shOk 40) <|
      some ((IntKind.i64.wrap (IntKind.u64.wrap (BitVec.ofInt (IntKind.bits .u64) ((IntKind.u64.wrap ((IntKind.u64.wrap ((IntKind.u64.wrap (s_.seed_ * 6364136223846793005)) + (IntKind.u64.wrap 0))) + 1442695040888963407)).fdiv (2 ^ (min 40 64))) &&& BitVec.ofInt (IntKind.bits .u64) 255).toNat)), (L00Src.mk s_.code_ (IntKind.i64.wrap (s_.at_ + 1)) (IntKind.u64.wrap ((IntKind.u64.wrap ((IntKind.u64.wrap (s_.seed_ * 6364136223846793005)) + (IntKind.u64.wrap 0))) + 1442695040888963407))))

/-- (*spec.l00Src).pick -/
noncomputable def spec_l00Src_pick (s_ : L00Src) (n : Int) : Option (Int × L00Src) :=
  if (decide (n ≤ 1)) then
    some (0, s_)
  else
    (spec_l00Src_next s_).bind fun y_2 =>
    if (decide (200 < n)) then
      (spec_l00Src_next y_2.2).bind fun y_4 =>
      ck (nz n) <|
      some (((IntKind.i64.wrap ((IntKind.i64.wrap (y_2.1 * 256)) + y_4.1)).tmod n), y_4.2)
    else
      ck (nz n) <|
      some ((y_2.1.tmod n), y_2.2)

/-- (*spec.l00Src).among -/
noncomputable def spec_l00Src_among (s_ : L00Src) (list : List Int) : Option (Int × L00Src) :=
  (spec_l00Src_pick s_ (list.length : Int)).bind fun y_1 =>
  ck (ixOk y_1.1 list.length) <|
  some ((list.getD y_1.1.toNat default), y_1.2)

/-- (*spec.l00Src).one -/
noncomputable def spec_l00Src_one (s_ : L00Src) (n : Int) : Option (Bool × L00Src) :=
  (spec_l00Src_pick s_ n).bind fun y_1 =>
  some ((y_1.1 == 0), y_1.2)

/-- (*spec.l00Src).text -/
noncomputable def spec_l00Src_text (s_ : L00Src) (list : List (List UInt8)) : Option ((List UInt8) × L00Src) :=
  (spec_l00Src_pick s_ (list.length : Int)).bind fun y_1 =>
  ck (ixOk y_1.1 list.length) <|
  some ((list.getD y_1.1.toNat default), y_1.2)

/-- spec.l18New -/
noncomputable def spec_l18New (s_ : L00Src) : Option (Rule × L00Src) :=
  (spec_l00Src_text s_ ([([99, 101, 112, 104, 101, 105, 100] : List UInt8), ([109, 105, 114, 97] : List UInt8), ([101, 99, 108, 105, 112, 115, 105, 110, 103] : List UInt8), ([114, 114, 45, 108, 121, 114, 97, 101] : List UInt8)] : List (List UInt8))).bind fun y_1 =>
  (spec_l00Src_pick y_1.2 4).bind fun y_2 =>
  (spec_l00Src_pick y_2.2 5).bind fun y_3 =>
  (spec_l00Src_pick y_3.2 4).bind fun y_4 =>
  (spec_l00Src_pick y_4.2 5).bind fun y_5 =>
  (spec_l00Src_pick y_5.2 4).bind fun y_6 =>
  some ((Rule.mk y_1.1 (IntKind.i64.wrap (500 * y_2.1)) (IntKind.i64.wrap ((IntKind.i64.wrap (500 * y_2.1)) + (IntKind.i64.wrap (500 * y_3.1)))) (IntKind.i64.wrap (10000 * y_4.1)) (IntKind.i64.wrap ((IntKind.i64.wrap (10000 * y_4.1)) + (IntKind.i64.wrap (10000 * y_5.1)))) y_6.1), y_6.2)

noncomputable def spec_l18Bent_l1  : (L00Src × (List Rule) × Int) → Option ((L00Src × (List Rule) × Int) ⊕ (L00Src × (List Rule)))
  | (s_, list, k) =>
    if (decide (0 < k)) then
      (spec_l18New s_).bind fun y_6 =>
      ck (appOk (list.length + ([y_6.1] : List Rule).length) 56) <|
      some (.inl (y_6.2, (list ++ ([y_6.1] : List Rule)), (IntKind.i64.wrap (k - 1))))
    else
      some (.inr (s_, list))

noncomputable def spec_l18Bent_l2  : (L00Src × (List Rule) × Int) → Option ((L00Src × (List Rule) × Int) ⊕ (L00Src × (List Rule)))
  | (s_, list, k) =>
    if (decide (0 < k)) then
      (spec_l18New s_).bind fun y_41 =>
      ck (appOk (list.length + ([y_41.1] : List Rule).length) 56) <|
      some (.inl (y_41.2, (list ++ ([y_41.1] : List Rule)), (IntKind.i64.wrap (k - 1))))
    else
      some (.inr (s_, list))

/-- spec.l18Bent -/
noncomputable def spec_l18Bent (s_ : L00Src) : Option ((List Rule) × L00Src) :=
  (spec_l00Src_pick s_ 7).bind fun y_1 =>
  (spec_l00Src_one y_1.2 24).bind fun y_2 =>
  if y_2.1 then
    (spec_l00Src_pick y_2.2 2).bind fun y_4 =>
    (whileE (spec_l18Bent_l1) (y_4.2, ([] : List Rule), (IntKind.i64.wrap (12 + y_4.1)))).bind fun y_8 =>
    (spec_l00Src_one y_8.1 4).bind fun y_9 =>
    if y_9.1 then
      ck (appOk (y_8.2.length + ([(Rule.mk ([114, 101, 115, 116] : List UInt8) 0 20000 0 1000000 0)] : List Rule).length) 56) <|
      if (((y_8.2 ++ ([(Rule.mk ([114, 101, 115, 116] : List UInt8) 0 20000 0 1000000 0)] : List Rule)).length : Int) == 0) then
        some ((y_8.2 ++ ([(Rule.mk ([114, 101, 115, 116] : List UInt8) 0 20000 0 1000000 0)] : List Rule)), y_9.2)
      else
        (spec_l00Src_pick y_9.2 ((y_8.2 ++ ([(Rule.mk ([114, 101, 115, 116] : List UInt8) 0 20000 0 1000000 0)] : List Rule)).length : Int)).bind fun y_13 =>
        ck (ixOk y_13.1 ((y_8.2 ++ ([(Rule.mk ([114, 101, 115, 116] : List UInt8) 0 20000 0 1000000 0)] : List Rule)).length)) <|
        (spec_l00Src_pick y_13.2 30).bind fun y_15 =>
        if (y_15.1 == 0) then
          (spec_l00Src_text y_15.2 ([([] : List UInt8), ([77, 105, 114, 97] : List UInt8), ([109] : List UInt8)] : List (List UInt8))).bind fun y_17 =>
          some (((y_8.2 ++ ([(Rule.mk ([114, 101, 115, 116] : List UInt8) 0 20000 0 1000000 0)] : List Rule)).set y_13.1.toNat (Rule.mk y_17.1 (((y_8.2 ++ ([(Rule.mk ([114, 101, 115, 116] : List UInt8) 0 20000 0 1000000 0)] : List Rule)).getD y_13.1.toNat default).FromAmp) (((y_8.2 ++ ([(Rule.mk ([114, 101, 115, 116] : List UInt8) 0 20000 0 1000000 0)] : List Rule)).getD y_13.1.toNat default).ToAmp) (((y_8.2 ++ ([(Rule.mk ([114, 101, 115, 116] : List UInt8) 0 20000 0 1000000 0)] : List Rule)).getD y_13.1.toNat default).FromPer) (((y_8.2 ++ ([(Rule.mk ([114, 101, 115, 116] : List UInt8) 0 20000 0 1000000 0)] : List Rule)).getD y_13.1.toNat default).ToPer) (((y_8.2 ++ ([(Rule.mk ([114, 101, 115, 116] : List UInt8) 0 20000 0 1000000 0)] : List Rule)).getD y_13.1.toNat default).Shape))), y_17.2)
        else
          if (y_15.1 == 1) then
            (spec_l00Src_among y_15.2 ([(-1), 0, ((y_8.2 ++ ([(Rule.mk ([114, 101, 115, 116] : List UInt8) 0 20000 0 1000000 0)] : List Rule)).getD y_13.1.toNat default).ToAmp, (IntKind.i64.wrap ((((y_8.2 ++ ([(Rule.mk ([114, 101, 115, 116] : List UInt8) 0 20000 0 1000000 0)] : List Rule)).getD y_13.1.toNat default).ToAmp) + 1))] : List Int)).bind fun y_19 =>
            some (((y_8.2 ++ ([(Rule.mk ([114, 101, 115, 116] : List UInt8) 0 20000 0 1000000 0)] : List Rule)).set y_13.1.toNat (Rule.mk (((y_8.2 ++ ([(Rule.mk ([114, 101, 115, 116] : List UInt8) 0 20000 0 1000000 0)] : List Rule)).getD y_13.1.toNat default).Class) y_19.1 (((y_8.2 ++ ([(Rule.mk ([114, 101, 115, 116] : List UInt8) 0 20000 0 1000000 0)] : List Rule)).getD y_13.1.toNat default).ToAmp) (((y_8.2 ++ ([(Rule.mk ([114, 101, 115, 116] : List UInt8) 0 20000 0 1000000 0)] : List Rule)).getD y_13.1.toNat default).FromPer) (((y_8.2 ++ ([(Rule.mk ([114, 101, 115, 116] : List UInt8) 0 20000 0 1000000 0)] : List Rule)).getD y_13.1.toNat default).ToPer) (((y_8.2 ++ ([(Rule.mk ([114, 101, 115, 116] : List UInt8) 0 20000 0 1000000 0)] : List Rule)).getD y_13.1.toNat default).Shape))), y_19.2)
          else
            if (y_15.1 == 2) then
              (spec_l00Src_among y_15.2 ([20000, 20001, (-9223372036854775808)] : List Int)).bind fun y_21 =>
              some (((y_8.2 ++ ([(Rule.mk ([114, 101, 115, 116] : List UInt8) 0 20000 0 1000000 0)] : List Rule)).set y_13.1.toNat (Rule.mk (((y_8.2 ++ ([(Rule.mk ([114, 101, 115, 116] : List UInt8) 0 20000 0 1000000 0)] : List Rule)).getD y_13.1.toNat default).Class) (((y_8.2 ++ ([(Rule.mk ([114, 101, 115, 116] : List UInt8) 0 20000 0 1000000 0)] : List Rule)).getD y_13.1.toNat default).FromAmp) y_21.1 (((y_8.2 ++ ([(Rule.mk ([114, 101, 115, 116] : List UInt8) 0 20000 0 1000000 0)] : List Rule)).getD y_13.1.toNat default).FromPer) (((y_8.2 ++ ([(Rule.mk ([114, 101, 115, 116] : List UInt8) 0 20000 0 1000000 0)] : List Rule)).getD y_13.1.toNat default).ToPer) (((y_8.2 ++ ([(Rule.mk ([114, 101, 115, 116] : List UInt8) 0 20000 0 1000000 0)] : List Rule)).getD y_13.1.toNat default).Shape))), y_21.2)
            else
              if (y_15.1 == 3) then
                (spec_l00Src_among y_15.2 ([1000000, 1000001, 9223372036854775807] : List Int)).bind fun y_23 =>
                some (((y_8.2 ++ ([(Rule.mk ([114, 101, 115, 116] : List UInt8) 0 20000 0 1000000 0)] : List Rule)).set y_13.1.toNat (Rule.mk (((y_8.2 ++ ([(Rule.mk ([114, 101, 115, 116] : List UInt8) 0 20000 0 1000000 0)] : List Rule)).getD y_13.1.toNat default).Class) (((y_8.2 ++ ([(Rule.mk ([114, 101, 115, 116] : List UInt8) 0 20000 0 1000000 0)] : List Rule)).getD y_13.1.toNat default).FromAmp) (((y_8.2 ++ ([(Rule.mk ([114, 101, 115, 116] : List UInt8) 0 20000 0 1000000 0)] : List Rule)).getD y_13.1.toNat default).ToAmp) (((y_8.2 ++ ([(Rule.mk ([114, 101, 115, 116] : List UInt8) 0 20000 0 1000000 0)] : List Rule)).getD y_13.1.toNat default).FromPer) y_23.1 (((y_8.2 ++ ([(Rule.mk ([114, 101, 115, 116] : List UInt8) 0 20000 0 1000000 0)] : List Rule)).getD y_13.1.toNat default).Shape))), y_23.2)
              else
                if (y_15.1 == 4) then
                  (spec_l00Src_among y_15.2 ([(-1), 0, 3, 4] : List Int)).bind fun y_25 =>
                  some (((y_8.2 ++ ([(Rule.mk ([114, 101, 115, 116] : List UInt8) 0 20000 0 1000000 0)] : List Rule)).set y_13.1.toNat (Rule.mk (((y_8.2 ++ ([(Rule.mk ([114, 101, 115, 116] : List UInt8) 0 20000 0 1000000 0)] : List Rule)).getD y_13.1.toNat default).Class) (((y_8.2 ++ ([(Rule.mk ([114, 101, 115, 116] : List UInt8) 0 20000 0 1000000 0)] : List Rule)).getD y_13.1.toNat default).FromAmp) (((y_8.2 ++ ([(Rule.mk ([114, 101, 115, 116] : List UInt8) 0 20000 0 1000000 0)] : List Rule)).getD y_13.1.toNat default).ToAmp) (((y_8.2 ++ ([(Rule.mk ([114, 101, 115, 116] : List UInt8) 0 20000 0 1000000 0)] : List Rule)).getD y_13.1.toNat default).FromPer) (((y_8.2 ++ ([(Rule.mk ([114, 101, 115, 116] : List UInt8) 0 20000 0 1000000 0)] : List Rule)).getD y_13.1.toNat default).ToPer) y_25.1)), y_25.2)
                else
                  some ((y_8.2 ++ ([(Rule.mk ([114, 101, 115, 116] : List UInt8) 0 20000 0 1000000 0)] : List Rule)), y_15.2)
    else
      if ((y_8.2.length : Int) == 0) then
        some (y_8.2, y_9.2)
      else
        (spec_l00Src_pick y_9.2 (y_8.2.length : Int)).bind fun y_27 =>
        ck (ixOk y_27.1 y_8.2.length) <|
        (spec_l00Src_pick y_27.2 30).bind fun y_29 =>
        if (y_29.1 == 0) then
          (spec_l00Src_text y_29.2 ([([] : List UInt8), ([77, 105, 114, 97] : List UInt8), ([109] : List UInt8)] : List (List UInt8))).bind fun y_31 =>
          some ((y_8.2.set y_27.1.toNat (Rule.mk y_31.1 ((y_8.2.getD y_27.1.toNat default).FromAmp) ((y_8.2.getD y_27.1.toNat default).ToAmp) ((y_8.2.getD y_27.1.toNat default).FromPer) ((y_8.2.getD y_27.1.toNat default).ToPer) ((y_8.2.getD y_27.1.toNat default).Shape))), y_31.2)
        else
          if (y_29.1 == 1) then
            (spec_l00Src_among y_29.2 ([(-1), 0, (y_8.2.getD y_27.1.toNat default).ToAmp, (IntKind.i64.wrap (((y_8.2.getD y_27.1.toNat default).ToAmp) + 1))] : List Int)).bind fun y_33 =>
            some ((y_8.2.set y_27.1.toNat (Rule.mk ((y_8.2.getD y_27.1.toNat default).Class) y_33.1 ((y_8.2.getD y_27.1.toNat default).ToAmp) ((y_8.2.getD y_27.1.toNat default).FromPer) ((y_8.2.getD y_27.1.toNat default).ToPer) ((y_8.2.getD y_27.1.toNat default).Shape))), y_33.2)
          else
            if (y_29.1 == 2) then
              (spec_l00Src_among y_29.2 ([20000, 20001, (-9223372036854775808)] : List Int)).bind fun y_35 =>
              some ((y_8.2.set y_27.1.toNat (Rule.mk ((y_8.2.getD y_27.1.toNat default).Class) ((y_8.2.getD y_27.1.toNat default).FromAmp) y_35.1 ((y_8.2.getD y_27.1.toNat default).FromPer) ((y_8.2.getD y_27.1.toNat default).ToPer) ((y_8.2.getD y_27.1.toNat default).Shape))), y_35.2)
            else
              if (y_29.1 == 3) then
                (spec_l00Src_among y_29.2 ([1000000, 1000001, 9223372036854775807] : List Int)).bind fun y_37 =>
                some ((y_8.2.set y_27.1.toNat (Rule.mk ((y_8.2.getD y_27.1.toNat default).Class) ((y_8.2.getD y_27.1.toNat default).FromAmp) ((y_8.2.getD y_27.1.toNat default).ToAmp) ((y_8.2.getD y_27.1.toNat default).FromPer) y_37.1 ((y_8.2.getD y_27.1.toNat default).Shape))), y_37.2)
              else
                if (y_29.1 == 4) then
                  (spec_l00Src_among y_29.2 ([(-1), 0, 3, 4] : List Int)).bind fun y_39 =>
                  some ((y_8.2.set y_27.1.toNat (Rule.mk ((y_8.2.getD y_27.1.toNat default).Class) ((y_8.2.getD y_27.1.toNat default).FromAmp) ((y_8.2.getD y_27.1.toNat default).ToAmp) ((y_8.2.getD y_27.1.toNat default).FromPer) ((y_8.2.getD y_27.1.toNat default).ToPer) y_39.1)), y_39.2)
                else
                  some (y_8.2, y_29.2)
  else
    (whileE (spec_l18Bent_l2) (y_2.2, ([] : List Rule), y_1.1)).bind fun y_43 =>
    (spec_l00Src_one y_43.1 4).bind fun y_44 =>
    if y_44.1 then
      ck (appOk (y_43.2.length + ([(Rule.mk ([114, 101, 115, 116] : List UInt8) 0 20000 0 1000000 0)] : List Rule).length) 56) <|
      if (((y_43.2 ++ ([(Rule.mk ([114, 101, 115, 116] : List UInt8) 0 20000 0 1000000 0)] : List Rule)).length : Int) == 0) then
        some ((y_43.2 ++ ([(Rule.mk ([114, 101, 115, 116] : List UInt8) 0 20000 0 1000000 0)] : List Rule)), y_44.2)
      else
        (spec_l00Src_pick y_44.2 ((y_43.2 ++ ([(Rule.mk ([114, 101, 115, 116] : List UInt8) 0 20000 0 1000000 0)] : List Rule)).length : Int)).bind fun y_48 =>
        ck (ixOk y_48.1 ((y_43.2 ++ ([(Rule.mk ([114, 101, 115, 116] : List UInt8) 0 20000 0 1000000 0)] : List Rule)).length)) <|
        (spec_l00Src_pick y_48.2 30).bind fun y_50 =>
        if (y_50.1 == 0) then
          (spec_l00Src_text y_50.2 ([([] : List UInt8), ([77, 105, 114, 97] : List UInt8), ([109] : List UInt8)] : List (List UInt8))).bind fun y_52 =>
          some (((y_43.2 ++ ([(Rule.mk ([114, 101, 115, 116] : List UInt8) 0 20000 0 1000000 0)] : List Rule)).set y_48.1.toNat (Rule.mk y_52.1 (((y_43.2 ++ ([(Rule.mk ([114, 101, 115, 116] : List UInt8) 0 20000 0 1000000 0)] : List Rule)).getD y_48.1.toNat default).FromAmp) (((y_43.2 ++ ([(Rule.mk ([114, 101, 115, 116] : List UInt8) 0 20000 0 1000000 0)] : List Rule)).getD y_48.1.toNat default).ToAmp) (((y_43.2 ++ ([(Rule.mk ([114, 101, 115, 116] : List UInt8) 0 20000 0 1000000 0)] : List Rule)).getD y_48.1.toNat default).FromPer) (((y_43.2 ++ ([(Rule.mk ([114, 101, 115, 116] : List UInt8) 0 20000 0 1000000 0)] : List Rule)).getD y_48.1.toNat default).ToPer) (((y_43.2 ++ ([(Rule.mk ([114, 101, 115, 116] : List UInt8) 0 20000 0 1000000 0)] : List Rule)).getD y_48.1.toNat default).Shape))), y_52.2)
        else
          if (y_50.1 == 1) then
            (spec_l00Src_among y_50.2 ([(-1), 0, ((y_43.2 ++ ([(Rule.mk ([114, 101, 115, 116] : List UInt8) 0 20000 0 1000000 0)] : List Rule)).getD y_48.1.toNat default).ToAmp, (IntKind.i64.wrap ((((y_43.2 ++ ([(Rule.mk ([114, 101, 115, 116] : List UInt8) 0 20000 0 1000000 0)] : List Rule)).getD y_48.1.toNat default).ToAmp) + 1))] : List Int)).bind fun y_54 =>
            some (((y_43.2 ++ ([(Rule.mk ([114, 101, 115, 116] : List UInt8) 0 20000 0 1000000 0)] : List Rule)).set y_48.1.toNat (Rule.mk (((y_43.2 ++ ([(Rule.mk ([114, 101, 115, 116] : List UInt8) 0 20000 0 1000000 0)] : List Rule)).getD y_48.1.toNat default).Class) y_54.1 (((y_43.2 ++ ([(Rule.mk ([114, 101, 115, 116] : List UInt8) 0 20000 0 1000000 0)] : List Rule)).getD y_48.1.toNat default).ToAmp) (((y_43.2 ++ ([(Rule.mk ([114, 101, 115, 116] : List UInt8) 0 20000 0 1000000 0)] : List Rule)).getD y_48.1.toNat default).FromPer) (((y_43.2 ++ ([(Rule.mk ([114, 101, 115, 116] : List UInt8) 0 20000 0 1000000 0)] : List Rule)).getD y_48.1.toNat default).ToPer) (((y_43.2 ++ ([(Rule.mk ([114, 101, 115, 116] : List UInt8) 0 20000 0 1000000 0)] : List Rule)).getD y_48.1.toNat default).Shape))), y_54.2)
          else
            if (y_50.1 == 2) then
              (spec_l00Src_among y_50.2 ([20000, 20001, (-9223372036854775808)] : List Int)).bind fun y_56 =>
              some (((y_43.2 ++ ([(Rule.mk ([114, 101, 115, 116] : List UInt8) 0 20000 0 1000000 0)] : List Rule)).set y_48.1.toNat (Rule.mk (((y_43.2 ++ ([(Rule.mk ([114, 101, 115, 116] : List UInt8) 0 20000 0 1000000 0)] : List Rule)).getD y_48.1.toNat default).Class) (((y_43.2 ++ ([(Rule.mk ([114, 101, 115, 116] : List UInt8) 0 20000 0 1000000 0)] : List Rule)).getD y_48.1.toNat default).FromAmp) y_56.1 (((y_43.2 ++ ([(Rule.mk ([114, 101, 115, 116] : List UInt8) 0 20000 0 1000000 0)] : List Rule)).getD y_48.1.toNat default).FromPer) (((y_43.2 ++ ([(Rule.mk ([114, 101, 115, 116] : List UInt8) 0 20000 0 1000000 0)] : List Rule)).getD y_48.1.toNat default).ToPer) (((y_43.2 ++ ([(Rule.mk ([114, 101, 115, 116] : List UInt8) 0 20000 0 1000000 0)] : List Rule)).getD y_48.1.toNat default).Shape))), y_56.2)
            else
              if (y_50.1 == 3) then
                (spec_l00Src_among y_50.2 ([1000000, 1000001, 9223372036854775807] : List Int)).bind fun y_58 =>
                some (((y_43.2 ++ ([(Rule.mk ([114, 101, 115, 116] : List UInt8) 0 20000 0 1000000 0)] : List Rule)).set y_48.1.toNat (Rule.mk (((y_43.2 ++ ([(Rule.mk ([114, 101, 115, 116] : List UInt8) 0 20000 0 1000000 0)] : List Rule)).getD y_48.1.toNat default).Class) (((y_43.2 ++ ([(Rule.mk ([114, 101, 115, 116] : List UInt8) 0 20000 0 1000000 0)] : List Rule)).getD y_48.1.toNat default).FromAmp) (((y_43.2 ++ ([(Rule.mk ([114, 101, 115, 116] : List UInt8) 0 20000 0 1000000 0)] : List Rule)).getD y_48.1.toNat default).ToAmp) (((y_43.2 ++ ([(Rule.mk ([114, 101, 115, 116] : List UInt8) 0 20000 0 1000000 0)] : List Rule)).getD y_48.1.toNat default).FromPer) y_58.1 (((y_43.2 ++ ([(Rule.mk ([114, 101, 115, 116] : List UInt8) 0 20000 0 1000000 0)] : List Rule)).getD y_48.1.toNat default).Shape))), y_58.2)
              else
                if (y_50.1 == 4) then
                  (spec_l00Src_among y_50.2 ([(-1), 0, 3, 4] : List Int)).bind fun y_60 =>
                  some (((y_43.2 ++ ([(Rule.mk ([114, 101, 115, 116] : List UInt8) 0 20000 0 1000000 0)] : List Rule)).set y_48.1.toNat (Rule.mk (((y_43.2 ++ ([(Rule.mk ([114, 101, 115, 116] : List UInt8) 0 20000 0 1000000 0)] : List Rule)).getD y_48.1.toNat default).Class) (((y_43.2 ++ ([(Rule.mk ([114, 101, 115, 116] : List UInt8) 0 20000 0 1000000 0)] : List Rule)).getD y_48.1.toNat default).FromAmp) (((y_43.2 ++ ([(Rule.mk ([114, 101, 115, 116] : List UInt8) 0 20000 0 1000000 0)] : List Rule)).getD y_48.1.toNat default).ToAmp) (((y_43.2 ++ ([(Rule.mk ([114, 101, 115, 116] : List UInt8) 0 20000 0 1000000 0)] : List Rule)).getD y_48.1.toNat default).FromPer) (((y_43.2 ++ ([(Rule.mk ([114, 101, 115, 116] : List UInt8) 0 20000 0 1000000 0)] : List Rule)).getD y_48.1.toNat default).ToPer) y_60.1)), y_60.2)
                else
                  some ((y_43.2 ++ ([(Rule.mk ([114, 101, 115, 116] : List UInt8) 0 20000 0 1000000 0)] : List Rule)), y_50.2)
    else
      if ((y_43.2.length : Int) == 0) then
        some (y_43.2, y_44.2)
      else
        (spec_l00Src_pick y_44.2 (y_43.2.length : Int)).bind fun y_62 =>
        ck (ixOk y_62.1 y_43.2.length) <|
        (spec_l00Src_pick y_62.2 30).bind fun y_64 =>
        if (y_64.1 == 0) then
          (spec_l00Src_text y_64.2 ([([] : List UInt8), ([77, 105, 114, 97] : List UInt8), ([109] : List UInt8)] : List (List UInt8))).bind fun y_66 =>
          some ((y_43.2.set y_62.1.toNat (Rule.mk y_66.1 ((y_43.2.getD y_62.1.toNat default).FromAmp) ((y_43.2.getD y_62.1.toNat default).ToAmp) ((y_43.2.getD y_62.1.toNat default).FromPer) ((y_43.2.getD y_62.1.toNat default).ToPer) ((y_43.2.getD y_62.1.toNat default).Shape))), y_66.2)
        else
          if (y_64.1 == 1) then
            (spec_l00Src_among y_64.2 ([(-1), 0, (y_43.2.getD y_62.1.toNat default).ToAmp, (IntKind.i64.wrap (((y_43.2.getD y_62.1.toNat default).ToAmp) + 1))] : List Int)).bind fun y_68 =>
            some ((y_43.2.set y_62.1.toNat (Rule.mk ((y_43.2.getD y_62.1.toNat default).Class) y_68.1 ((y_43.2.getD y_62.1.toNat default).ToAmp) ((y_43.2.getD y_62.1.toNat default).FromPer) ((y_43.2.getD y_62.1.toNat default).ToPer) ((y_43.2.getD y_62.1.toNat default).Shape))), y_68.2)
          else
            if (y_64.1 == 2) then
              (spec_l00Src_among y_64.2 ([20000, 20001, (-9223372036854775808)] : List Int)).bind fun y_70 =>
              some ((y_43.2.set y_62.1.toNat (Rule.mk ((y_43.2.getD y_62.1.toNat default).Class) ((y_43.2.getD y_62.1.toNat default).FromAmp) y_70.1 ((y_43.2.getD y_62.1.toNat default).FromPer) ((y_43.2.getD y_62.1.toNat default).ToPer) ((y_43.2.getD y_62.1.toNat default).Shape))), y_70.2)
            else
              if (y_64.1 == 3) then
                (spec_l00Src_among y_64.2 ([1000000, 1000001, 9223372036854775807] : List Int)).bind fun y_72 =>
                some ((y_43.2.set y_62.1.toNat (Rule.mk ((y_43.2.getD y_62.1.toNat default).Class) ((y_43.2.getD y_62.1.toNat default).FromAmp) ((y_43.2.getD y_62.1.toNat default).ToAmp) ((y_43.2.getD y_62.1.toNat default).FromPer) y_72.1 ((y_43.2.getD y_62.1.toNat default).Shape))), y_72.2)
              else
                if (y_64.1 == 4) then
                  (spec_l00Src_among y_64.2 ([(-1), 0, 3, 4] : List Int)).bind fun y_74 =>
                  some ((y_43.2.set y_62.1.toNat (Rule.mk ((y_43.2.getD y_62.1.toNat default).Class) ((y_43.2.getD y_62.1.toNat default).FromAmp) ((y_43.2.getD y_62.1.toNat default).ToAmp) ((y_43.2.getD y_62.1.toNat default).FromPer) ((y_43.2.getD y_62.1.toNat default).ToPer) y_74.1)), y_74.2)
                else
                  some (y_43.2, y_64.2)

/-- spec.l18DrawFacts -/
noncomputable def spec_l18DrawFacts (s_ : L00Src) : Option (Facts × L00Src) :=
  (spec_l00Src_pick s_ 14).bind fun y_1 =>
  (spec_l00Src_pick y_1.2 16).bind fun y_2 =>
  (spec_l00Src_pick y_2.2 3).bind fun y_3 =>
  (spec_l00Src_pick y_3.2 16).bind fun y_4 =>
  if (y_4.1 == 0) then
    (spec_l00Src_among y_4.2 ([(-1), 0, 20000, 20001] : List Int)).bind fun y_6 =>
    some ((Facts.mk y_6.1 (IntKind.i64.wrap (5000 * y_2.1)) (IntKind.i64.wrap (1 + y_3.1))), y_6.2)
  else
    if (y_4.1 == 1) then
      (spec_l00Src_among y_4.2 ([(-1), 0, 1000000, 1000001] : List Int)).bind fun y_8 =>
      some ((Facts.mk (IntKind.i64.wrap (250 * y_1.1)) y_8.1 (IntKind.i64.wrap (1 + y_3.1))), y_8.2)
    else
      if (y_4.1 == 2) then
        (spec_l00Src_among y_4.2 ([0, 1, 3, 4] : List Int)).bind fun y_10 =>
        some ((Facts.mk (IntKind.i64.wrap (250 * y_1.1)) (IntKind.i64.wrap (5000 * y_2.1)) y_10.1), y_10.2)
      else
        some ((Facts.mk (IntKind.i64.wrap (250 * y_1.1)) (IntKind.i64.wrap (5000 * y_2.1)) (IntKind.i64.wrap (1 + y_3.1))), y_4.2)

/-- spec.l18Ask -/
noncomputable def spec_l18Ask (code : List UInt8) : Option ((List Rule) × Facts) :=
  (spec_l00From code).bind fun y_1 =>
  (spec_l18Bent y_1).bind fun y_2 =>
  (spec_l18DrawFacts y_2.2).bind fun y_3 =>
  some (y_2.1, y_3.1)

/-- spec.DrawClassOf -/
noncomputable def spec_DrawClassOf (code : List UInt8) : Option ((List Rule) × Facts) :=
  (spec_l18Ask code).bind fun y_1 =>
  some (y_1.1, y_1.2)

noncomputable def impl_IsName_l1 (s_ : List UInt8) (t15 : Int) : Int → Option (Int ⊕ (Unit ⊕ Bool))
  | t16 =>
    if (decide (t16 < t15)) then
      ck (ixOk t16 s_.length) <|
      if ((!((decide (97 ≤ ((s_.getD t16.toNat 0).toNat : Int))) && (decide (((s_.getD t16.toNat 0).toNat : Int) ≤ 122)))) && ((t16 == 0) || (!(((decide (48 ≤ ((s_.getD t16.toNat 0).toNat : Int))) && (decide (((s_.getD t16.toNat 0).toNat : Int) ≤ 57))) || (((s_.getD t16.toNat 0).toNat : Int) == 45))))) then
        some (.inr (.inr false))
      else
        some (.inl (IntKind.i64.wrap (t16 + 1)))
    else
      some (.inr (.inl ()))

/-- impl.IsName -/
noncomputable def impl_IsName (s_ : List UInt8) : Option Bool :=
  if ((decide ((s_.length : Int) < 1)) || (decide (12 < (s_.length : Int)))) then
    some false
  else
    (whileE (impl_IsName_l1 s_ (s_.length : Int)) 0).bind fun y_5 =>
    match y_5 with
    | .inl y_5a =>
      some true
    | .inr y_5b =>
      some y_5b

/-- impl.in -/
noncomputable def impl_in (n : Int) (low : Int) (high : Int) : Option Bool :=
  some ((decide (low ≤ n)) && (decide (n ≤ high)))

/-- impl.isRule -/
noncomputable def impl_isRule (r : Rule) : Option Bool :=
  (impl_IsName r.Class).bind fun y_1 =>
  ck (!((y_1 && (((decide (0 ≤ r.FromAmp)) && (decide (r.FromAmp ≤ r.ToAmp))) && (decide (r.ToAmp ≤ 20000)))) && (((decide (0 ≤ r.FromPer)) && (decide (r.FromPer ≤ r.ToPer))) && (decide (r.ToPer ≤ 1000000)))) || (impl_in r.Shape 0 3).isSome) <|
  some (((y_1 && (((decide (0 ≤ r.FromAmp)) && (decide (r.FromAmp ≤ r.ToAmp))) && (decide (r.ToAmp ≤ 20000)))) && (((decide (0 ≤ r.FromPer)) && (decide (r.FromPer ≤ r.ToPer))) && (decide (r.ToPer ≤ 1000000)))) && ((impl_in r.Shape 0 3).getD default))

/-- impl.ValidRules$1 -/
noncomputable def impl_ValidRules_c1 (r : Rule) : Option Bool :=
  (impl_isRule r).bind fun y_1 =>
  some (!y_1)

noncomputable def slices_IndexFunc_impl_Rule_impl_Rule__impl_ValidRules_c1_l1 (s_ : List Rule) (t7 : Int) : Int → Option (Int ⊕ (Unit ⊕ Int))
  | t8 =>
    if (decide (t8 < t7)) then
      ck (ixOk t8 s_.length) <|
      (impl_ValidRules_c1 (s_.getD t8.toNat default)).bind fun y_3 =>
      if y_3 then
        some (.inr (.inr t8))
      else
        some (.inl (IntKind.i64.wrap (t8 + 1)))
    else
      some (.inr (.inl ()))

/-- slices.IndexFunc[[]impl.Rule,impl.Rule] -/
noncomputable def slices_IndexFunc_impl_Rule_impl_Rule__impl_ValidRules_c1 (s_ : List Rule) : Option Int :=
  (whileE (slices_IndexFunc_impl_Rule_impl_Rule__impl_ValidRules_c1_l1 s_ (s_.length : Int)) 0).bind fun y_5 =>
  match y_5 with
  | .inl y_5a =>
    some (-1)
  | .inr y_5b =>
    some y_5b

/-- slices.ContainsFunc[[]impl.Rule,impl.Rule] -/
noncomputable def slices_ContainsFunc_impl_Rule_impl_Rule__impl_ValidRules_c1 (s_ : List Rule) : Option Bool :=
  (slices_IndexFunc_impl_Rule_impl_Rule__impl_ValidRules_c1 s_).bind fun y_1 =>
  some (decide (0 ≤ y_1))

/-- impl.ValidRules -/
noncomputable def impl_ValidRules (list : List Rule) : Option Bool :=
  ck (!(decide ((list.length : Int) ≤ 12)) || (slices_ContainsFunc_impl_Rule_impl_Rule__impl_ValidRules_c1 list).isSome) <|
  some ((decide ((list.length : Int) ≤ 12)) && (!((slices_ContainsFunc_impl_Rule_impl_Rule__impl_ValidRules_c1 list).getD default)))

/-- impl.areFacts -/
noncomputable def impl_areFacts (f : Facts) : Option Bool :=
  (impl_in f.Amp 0 20000).bind fun y_1 =>
  ck (!y_1 || (impl_in f.Period 0 1000000).isSome) <|
  ck (!(y_1 && ((impl_in f.Period 0 1000000).getD default)) || (impl_in f.Shape 1 3).isSome) <|
  some ((y_1 && ((impl_in f.Period 0 1000000).getD default)) && ((impl_in f.Shape 1 3).getD default))

/-- (impl.Rule).matches -/
noncomputable def impl_Rule_matches (r : Rule) (f : Facts) : Option Bool :=
  (impl_in f.Amp r.FromAmp r.ToAmp).bind fun y_1 =>
  ck (!y_1 || (impl_in f.Period r.FromPer r.ToPer).isSome) <|
  some ((y_1 && ((impl_in f.Period r.FromPer r.ToPer).getD default)) && ((r.Shape == 0) || (r.Shape == f.Shape)))

/-- impl.first$1 -/
noncomputable def impl_first_c1 (r : Rule) (t1 : Facts) : Option Bool :=
  (impl_Rule_matches r t1).bind fun y_1 =>
  some y_1

noncomputable def slices_IndexFunc_impl_Rule_impl_Rule__impl_first_c1_l1 (s_ : List Rule) (c : Facts) (t7 : Int) : Int → Option (Int ⊕ (Unit ⊕ Int))
  | t8 =>
    if (decide (t8 < t7)) then
      ck (ixOk t8 s_.length) <|
      (impl_first_c1 (s_.getD t8.toNat default) c).bind fun y_3 =>
      if y_3 then
        some (.inr (.inr t8))
      else
        some (.inl (IntKind.i64.wrap (t8 + 1)))
    else
      some (.inr (.inl ()))

/-- slices.IndexFunc[[]impl.Rule,impl.Rule] -/
noncomputable def slices_IndexFunc_impl_Rule_impl_Rule__impl_first_c1 (s_ : List Rule) (f_c0 : Facts) : Option Int :=
  (whileE (slices_IndexFunc_impl_Rule_impl_Rule__impl_first_c1_l1 s_ f_c0 (s_.length : Int)) 0).bind fun y_5 =>
  match y_5 with
  | .inl y_5a =>
    some (-1)
  | .inr y_5b =>
    some y_5b

/-- impl.first -/
noncomputable def impl_first (list : List Rule) (f : Facts) : Option Int :=
  (slices_IndexFunc_impl_Rule_impl_Rule__impl_first_c1 list f).bind fun y_1 =>
  some y_1

/-- impl.ClassOf -/
noncomputable def impl_ClassOf (list : List Rule) (f : Facts) : Option ((List UInt8) × Int) :=
  (impl_ValidRules list).bind fun y_1 =>
  if (!y_1) then
    some (([] : List UInt8), 1)
  else
    (impl_areFacts f).bind fun y_3 =>
    if (!y_3) then
      some (([] : List UInt8), 2)
    else
      (impl_first list f).bind fun y_5 =>
      if (decide (y_5 < 0)) then
        some (([] : List UInt8), 3)
      else
        ck (ixOk y_5 list.length) <|
        some ((list.getD y_5.toNat default).Class, 0)

/-- spec.l00In -/
noncomputable def spec_l00In (n : Int) (low : Int) (high : Int) : Option Bool :=
  some ((decide (low ≤ n)) && (decide (n ≤ high)))

/-- spec.l01Small -/
noncomputable def spec_l01Small (c : UInt8) : Option Bool :=
  some ((decide (97 ≤ (c.toNat : Int))) && (decide ((c.toNat : Int) ≤ 122)))

/-- spec.l01Digit -/
noncomputable def spec_l01Digit (c : UInt8) : Option Bool :=
  some ((decide (48 ≤ (c.toNat : Int))) && (decide ((c.toNat : Int) ≤ 57)))

noncomputable def spec_IsName_l1 (s_ : List UInt8) : Int → Option (Int ⊕ (Unit ⊕ Bool))
  | i =>
    if (decide (i < (s_.length : Int))) then
      ck (ixOk i s_.length) <|
      (spec_l01Small (s_.getD i.toNat 0)).bind fun y_6 =>
      ck (!(!y_6) || (spec_l01Digit (s_.getD i.toNat 0)).isSome) <|
      if (((!y_6) && (!((spec_l01Digit (s_.getD i.toNat 0)).getD default))) && (!(((s_.getD i.toNat 0).toNat : Int) == 45))) then
        some (.inr (.inr false))
      else
        some (.inl (IntKind.i64.wrap (i + 1)))
    else
      some (.inr (.inl ()))

/-- spec.IsName -/
noncomputable def spec_IsName (s_ : List UInt8) : Option Bool :=
  ck (!(!((s_ == ([] : List UInt8)) || (decide (12 < (s_.length : Int))))) || ixOk 0 s_.length) <|
  ck (!(!((s_ == ([] : List UInt8)) || (decide (12 < (s_.length : Int))))) || (spec_l01Small (s_.getD 0 0)).isSome) <|
  if (((s_ == ([] : List UInt8)) || (decide (12 < (s_.length : Int)))) || (!((spec_l01Small (s_.getD 0 0)).getD default))) then
    some false
  else
    (whileE (spec_IsName_l1 s_) 0).bind fun y_9 =>
    match y_9 with
    | .inl y_9a =>
      some true
    | .inr y_9b =>
      some y_9b

/-- spec.l18Shape -/
noncomputable def spec_l18Shape (n : Int) : Option Bool :=
  (spec_l00In n 1 3).bind fun y_1 =>
  some y_1

/-- spec.l18One -/
noncomputable def spec_l18One (r : Rule) : Option Bool :=
  (spec_IsName r.Class).bind fun y_1 =>
  ck (!((!(!y_1)) && (!(r.Shape == 0))) || (spec_l18Shape r.Shape).isSome) <|
  if ((!y_1) || ((!(r.Shape == 0)) && (!((spec_l18Shape r.Shape).getD default)))) then
    some false
  else
    (spec_l00In r.FromAmp 0 20000).bind fun y_4 =>
    ck (!y_4 || (spec_l00In r.ToAmp r.FromAmp 20000).isSome) <|
    ck (!(y_4 && ((spec_l00In r.ToAmp r.FromAmp 20000).getD default)) || (spec_l00In r.FromPer 0 1000000).isSome) <|
    ck (!((y_4 && ((spec_l00In r.ToAmp r.FromAmp 20000).getD default)) && ((spec_l00In r.FromPer 0 1000000).getD default)) || (spec_l00In r.ToPer r.FromPer 1000000).isSome) <|
    some (((y_4 && ((spec_l00In r.ToAmp r.FromAmp 20000).getD default)) && ((spec_l00In r.FromPer 0 1000000).getD default)) && ((spec_l00In r.ToPer r.FromPer 1000000).getD default))

noncomputable def spec_l18Ok_l1 (list : List Rule) : Int → Option (Int ⊕ (Unit ⊕ Bool))
  | i =>
    if (decide (i < (list.length : Int))) then
      ck (ixOk i list.length) <|
      (spec_l18One (list.getD i.toNat default)).bind fun y_3 =>
      if (!y_3) then
        some (.inr (.inr false))
      else
        some (.inl (IntKind.i64.wrap (i + 1)))
    else
      some (.inr (.inl ()))

/-- spec.l18Ok -/
noncomputable def spec_l18Ok (list : List Rule) : Option Bool :=
  (whileE (spec_l18Ok_l1 list) 0).bind fun y_5 =>
  match y_5 with
  | .inl y_5a =>
    some (decide ((list.length : Int) ≤ 12))
  | .inr y_5b =>
    some y_5b

/-- spec.l18Facts -/
noncomputable def spec_l18Facts (f : Facts) : Option Bool :=
  (spec_l00In f.Amp 0 20000).bind fun y_1 =>
  ck (!y_1 || (spec_l00In f.Period 0 1000000).isSome) <|
  ck (!(y_1 && ((spec_l00In f.Period 0 1000000).getD default)) || (spec_l18Shape f.Shape).isSome) <|
  some ((y_1 && ((spec_l00In f.Period 0 1000000).getD default)) && ((spec_l18Shape f.Shape).getD default))

/-- spec.l18Code -/
noncomputable def spec_l18Code (list : List Rule) (f : Facts) : Option Int :=
  (spec_l18Ok list).bind fun y_1 =>
  if (!y_1) then
    some 1
  else
    (spec_l18Facts f).bind fun y_3 =>
    if (!y_3) then
      some 2
    else
      some 0

/-- spec.l18Match -/
noncomputable def spec_l18Match (r : Rule) (f : Facts) : Option Bool :=
  (spec_l00In f.Amp r.FromAmp r.ToAmp).bind fun y_1 =>
  ck (!y_1 || (spec_l00In f.Period r.FromPer r.ToPer).isSome) <|
  some ((y_1 && ((spec_l00In f.Period r.FromPer r.ToPer).getD default)) && ((r.Shape == 0) || (r.Shape == f.Shape)))

noncomputable def spec_l18First_l1 (list : List Rule) (f : Facts) : Int → Option (Int ⊕ (Unit ⊕ Int))
  | i =>
    if (decide (i < (list.length : Int))) then
      ck (ixOk i list.length) <|
      (spec_l18Match (list.getD i.toNat default) f).bind fun y_3 =>
      if y_3 then
        some (.inr (.inr i))
      else
        some (.inl (IntKind.i64.wrap (i + 1)))
    else
      some (.inr (.inl ()))

/-- spec.l18First -/
noncomputable def spec_l18First (list : List Rule) (f : Facts) : Option Int :=
  (whileE (spec_l18First_l1 list f) 0).bind fun y_5 =>
  match y_5 with
  | .inl y_5a =>
    some (-1)
  | .inr y_5b =>
    some y_5b

/-- spec.ClassOf -/
noncomputable def spec_ClassOf (list : List Rule) (f : Facts) : Option ((List UInt8) × Int) :=
  (spec_l18Code list f).bind fun y_1 =>
  if (!(y_1 == 0)) then
    some (([] : List UInt8), y_1)
  else
    (spec_l18First list f).bind fun y_3 =>
    if (decide (y_3 < 0)) then
      some (([] : List UInt8), 3)
    else
      ck (ixOk y_3 list.length) <|
      some ((list.getD y_3.toNat default).Class, 0)

/-- impl.RulesFor$1 -/
noncomputable def impl_RulesFor_c1 (i : Int) (t1 : List Rule) (t2 : Facts) : Option Bool :=
  ck (ixOk i t1.length) <|
  (impl_Rule_matches (t1.getD i.toNat default) t2).bind fun y_2 =>
  some y_2

noncomputable def impl_indicesWhere__impl_RulesFor_c1_l1 (c : List Rule) (c2 : Facts) (t8 : Int) : ((List Int) × Int) → Option (((List Int) × Int) ⊕ (List Int))
  | (out, t9) =>
    if (decide (t9 < t8)) then
      (impl_RulesFor_c1 t9 c c2).bind fun y_2 =>
      if y_2 then
        ck (appOk (out.length + ([t9] : List Int).length) 8) <|
        some (.inl ((out ++ ([t9] : List Int)), (IntKind.i64.wrap (t9 + 1))))
      else
        some (.inl (out, (IntKind.i64.wrap (t9 + 1))))
    else
      some (.inr out)

/-- impl.indicesWhere -/
noncomputable def impl_indicesWhere__impl_RulesFor_c1 (n : Int) (wanted_c0 : List Rule) (wanted_c1 : Facts) : Option (List Int) :=
  (whileE (impl_indicesWhere__impl_RulesFor_c1_l1 wanted_c0 wanted_c1 n) (([] : List Int), 0)).bind fun y_5 =>
  some y_5

/-- impl.RulesFor -/
noncomputable def impl_RulesFor (list : List Rule) (f : Facts) : Option ((List Int) × Int) :=
  (impl_ValidRules list).bind fun y_1 =>
  if (!y_1) then
    some (([] : List Int), 1)
  else
    (impl_areFacts f).bind fun y_3 =>
    if (!y_3) then
      some (([] : List Int), 2)
    else
      (impl_indicesWhere__impl_RulesFor_c1 (list.length : Int) list f).bind fun y_5 =>
      some (y_5, 0)

noncomputable def spec_RulesFor_l1 (list : List Rule) (f : Facts) : ((List Int) × Int) → Option (((List Int) × Int) ⊕ (List Int))
  | (out, i) =>
    if (decide (i < (list.length : Int))) then
      ck (ixOk i list.length) <|
      (spec_l18Match (list.getD i.toNat default) f).bind fun y_5 =>
      if y_5 then
        ck (appOk (out.length + ([i] : List Int).length) 8) <|
        some (.inl ((out ++ ([i] : List Int)), (IntKind.i64.wrap (i + 1))))
      else
        some (.inl (out, (IntKind.i64.wrap (i + 1))))
    else
      some (.inr out)

/-- spec.RulesFor -/
noncomputable def spec_RulesFor (list : List Rule) (f : Facts) : Option ((List Int) × Int) :=
  (spec_l18Code list f).bind fun y_1 =>
  if (!(y_1 == 0)) then
    some (([] : List Int), y_1)
  else
    (whileE (spec_RulesFor_l1 list f) (([] : List Int), 0)).bind fun y_8 =>
    some (y_8, 0)

/-- spec.l18Other -/
noncomputable def spec_l18Other (s_ : L00Src) : Option (Rule × L00Src) :=
  (spec_l18Bent s_).bind fun y_1 =>
  if ((y_1.1.length : Int) == 0) then
    (spec_l18New y_1.2).bind fun y_3 =>
    some (y_3.1, y_3.2)
  else
    (spec_l00Src_pick y_1.2 (y_1.1.length : Int)).bind fun y_4 =>
    ck (ixOk y_4.1 y_1.1.length) <|
    some ((y_1.1.getD y_4.1.toNat default), y_4.2)

/-- spec.DrawMatchesRule -/
noncomputable def spec_DrawMatchesRule (code : List UInt8) : Option (Rule × Facts) :=
  (spec_l00From code).bind fun y_1 =>
  (spec_l18Other y_1).bind fun y_2 =>
  (spec_l18DrawFacts y_2.2).bind fun y_3 =>
  some (y_2.1, y_3.1)

/-- impl.MatchesRule -/
noncomputable def impl_MatchesRule (r : Rule) (f : Facts) : Option (Bool × Int) :=
  (impl_isRule r).bind fun y_1 =>
  if (!y_1) then
    some (false, 1)
  else
    (impl_areFacts f).bind fun y_3 =>
    if (!y_3) then
      some (false, 2)
    else
      (impl_Rule_matches r f).bind fun y_5 =>
      some (y_5, 0)

/-- spec.MatchesRule -/
noncomputable def spec_MatchesRule (r : Rule) (f : Facts) : Option (Bool × Int) :=
  (spec_l18One r).bind fun y_1 =>
  if (!y_1) then
    some (false, 1)
  else
    (spec_l18Facts f).bind fun y_3 =>
    if (!y_3) then
      some (false, 2)
    else
      (spec_l18Match r f).bind fun y_5 =>
      some (y_5, 0)

/-- spec.l18Two -/
noncomputable def spec_l18Two (code : List UInt8) : Option ((List Rule) × Int × Int) :=
  (spec_l00From code).bind fun y_1 =>
  (spec_l18Bent y_1).bind fun y_2 =>
  (spec_l00Src_pick y_2.2 (IntKind.i64.wrap ((y_2.1.length : Int) + 1))).bind fun y_3 =>
  (spec_l00Src_pick y_3.2 16).bind fun y_4 =>
  ck (nz 15) <|
  (spec_l00Src_pick y_4.2 (IntKind.i64.wrap ((y_2.1.length : Int) + 1))).bind fun y_6 =>
  (spec_l00Src_pick y_6.2 16).bind fun y_7 =>
  some (y_2.1, (IntKind.i64.wrap (y_3.1 - (IntKind.i64.wrap (y_4.1.tdiv 15)))), (IntKind.i64.wrap (y_6.1 - (IntKind.i64.wrap (y_7.1.tdiv 15)))))

/-- spec.DrawMoveRule -/
noncomputable def spec_DrawMoveRule (code : List UInt8) : Option ((List Rule) × Int × Int) :=
  (spec_l18Two code).bind fun y_1 =>
  some (y_1.1, y_1.2.1, y_1.2.2)

/-- impl.count[impl.Rule] -/
noncomputable def impl_count_impl_Rule (list : List Rule) : Option Int :=
  some (list.length : Int)

/-- impl.copyOf[impl.Rule] -/
noncomputable def impl_copyOf_impl_Rule (list : List Rule) : Option (List Rule) :=
  ck (appOk (([] : List Rule).length + list.length) 56) <|
  some (([] : List Rule) ++ list)



/-- impl.MoveRule -/
noncomputable def impl_MoveRule (list : List Rule) (from_ : Int) (to_ : Int) : Option ((List Rule) × Int) :=
  (impl_ValidRules list).bind fun y_1 =>
  if (!y_1) then
    some (([] : List Rule), 1)
  else
    (impl_count_impl_Rule list).bind fun y_3 =>
    (impl_in from_ 0 (IntKind.i64.wrap (y_3 - 1))).bind fun y_4 =>
    ck (!(!(!y_4)) || (impl_in to_ 0 (IntKind.i64.wrap (y_3 - 1))).isSome) <|
    if ((!y_4) || (!((impl_in to_ 0 (IntKind.i64.wrap (y_3 - 1))).getD default))) then
      some (([] : List Rule), 2)
    else
      ck (ixOk from_ list.length) <|
      (impl_copyOf_impl_Rule list).bind fun y_9 =>
      (hDel y_9 from_ (IntKind.i64.wrap (from_ + 1))).bind fun y_10 =>
      (hIns 56 y_10 to_ ([(list.getD from_.toNat default)] : List Rule)).bind fun y_11 =>
      some (y_11, 0)

/-- spec.MoveRule -/
noncomputable def spec_MoveRule (list : List Rule) (from_ : Int) (to_ : Int) : Option ((List Rule) × Int) :=
  (spec_l18Ok list).bind fun y_1 =>
  if (!y_1) then
    some (([] : List Rule), 1)
  else
    (spec_l00In from_ 0 (IntKind.i64.wrap ((list.length : Int) - 1))).bind fun y_3 =>
    ck (!(!(!y_3)) || (spec_l00In to_ 0 (IntKind.i64.wrap ((list.length : Int) - 1))).isSome) <|
    if ((!y_3) || (!((spec_l00In to_ 0 (IntKind.i64.wrap ((list.length : Int) - 1))).getD default))) then
      some (([] : List Rule), 2)
    else
      ck (cutOk 0 from_ list.length) <|
      ck (appOk (([] : List Rule).length + (cut list 0 from_).length) 56) <|
      ck (cutOk (IntKind.i64.wrap (from_ + 1)) (list.length : Int) list.length) <|
      ck (appOk ((([] : List Rule) ++ (cut list 0 from_)).length + (cut list (IntKind.i64.wrap (from_ + 1)) (list.length : Int)).length) 56) <|
      ck (cutOk 0 to_ (((([] : List Rule) ++ (cut list 0 from_)) ++ (cut list (IntKind.i64.wrap (from_ + 1)) (list.length : Int))).length)) <|
      ck (appOk (([] : List Rule).length + (cut ((([] : List Rule) ++ (cut list 0 from_)) ++ (cut list (IntKind.i64.wrap (from_ + 1)) (list.length : Int))) 0 to_).length) 56) <|
      ck (ixOk from_ list.length) <|
      ck (appOk ((([] : List Rule) ++ (cut ((([] : List Rule) ++ (cut list 0 from_)) ++ (cut list (IntKind.i64.wrap (from_ + 1)) (list.length : Int))) 0 to_)).length + ([(list.getD from_.toNat default)] : List Rule).length) 56) <|
      ck (cutOk to_ (((([] : List Rule) ++ (cut list 0 from_)) ++ (cut list (IntKind.i64.wrap (from_ + 1)) (list.length : Int))).length : Int) (((([] : List Rule) ++ (cut list 0 from_)) ++ (cut list (IntKind.i64.wrap (from_ + 1)) (list.length : Int))).length)) <|
      ck (appOk (((([] : List Rule) ++ (cut ((([] : List Rule) ++ (cut list 0 from_)) ++ (cut list (IntKind.i64.wrap (from_ + 1)) (list.length : Int))) 0 to_)) ++ ([(list.getD from_.toNat default)] : List Rule)).length + (cut ((([] : List Rule) ++ (cut list 0 from_)) ++ (cut list (IntKind.i64.wrap (from_ + 1)) (list.length : Int))) to_ (((([] : List Rule) ++ (cut list 0 from_)) ++ (cut list (IntKind.i64.wrap (from_ + 1)) (list.length : Int))).length : Int)).length) 56) <|
      some ((((([] : List Rule) ++ (cut ((([] : List Rule) ++ (cut list 0 from_)) ++ (cut list (IntKind.i64.wrap (from_ + 1)) (list.length : Int))) 0 to_)) ++ ([(list.getD from_.toNat default)] : List Rule)) ++ (cut ((([] : List Rule) ++ (cut list 0 from_)) ++ (cut list (IntKind.i64.wrap (from_ + 1)) (list.length : Int))) to_ (((([] : List Rule) ++ (cut list 0 from_)) ++ (cut list (IntKind.i64.wrap (from_ + 1)) (list.length : Int))).length : Int))), 0)

/-- spec.DrawRuleText -/
noncomputable def spec_DrawRuleText (code : List UInt8) : Option Rule :=
  (spec_l00From code).bind fun y_1 =>
  (spec_l18Other y_1).bind fun y_2 =>
  some y_2.1


/-- strconv.FormatInt -/
noncomputable def strconv_FormatInt (i : Int) (base : Int) : Option (List UInt8) :=
  (hFmt i base).bind fun y_1 =>
  some y_1

/-- impl.Decimal -/
noncomputable def impl_Decimal (n : Int) : Option (List UInt8) :=
  (strconv_FormatInt n 10).bind fun y_1 =>
  some y_1

/-- impl.shapeNames -/
noncomputable def impl_shapeNames  : Option (List (List UInt8)) :=
  some ([([97, 110, 121] : List UInt8), ([115, 105, 110, 101] : List UInt8), ([115, 97, 119] : List UInt8), ([100, 105, 112, 115] : List UInt8)] : List (List UInt8))


/-- impl.RuleText -/
noncomputable def impl_RuleText (r : Rule) : Option (List UInt8) :=
  (impl_isRule r).bind fun y_1 =>
  if (!y_1) then
    some ([] : List UInt8)
  else
    (impl_Decimal r.FromAmp).bind fun y_3 =>
    ck (catOk y_3.length ([46, 46] : List UInt8).length) <|
    (impl_Decimal r.ToAmp).bind fun y_5 =>
    ck (catOk (y_3 ++ ([46, 46] : List UInt8)).length y_5.length) <|
    (impl_Decimal r.FromPer).bind fun y_7 =>
    ck (catOk y_7.length ([46, 46] : List UInt8).length) <|
    (impl_Decimal r.ToPer).bind fun y_9 =>
    ck (catOk (y_7 ++ ([46, 46] : List UInt8)).length y_9.length) <|
    ck (catOk r.Class.length ([58] : List UInt8).length) <|
    (impl_shapeNames).bind fun y_12 =>
    ck (ixOk r.Shape y_12.length) <|
    (hJoin ([(r.Class ++ ([58] : List UInt8)), ([97, 109, 112] : List UInt8), ((y_3 ++ ([46, 46] : List UInt8)) ++ y_5), ([112, 101, 114, 105, 111, 100] : List UInt8), ((y_7 ++ ([46, 46] : List UInt8)) ++ y_9), (y_12.getD r.Shape.toNat default)] : List (List UInt8)) ([32] : List UInt8)).bind fun y_14 =>
    some y_14

noncomputable def slices_Index_string_string_l1 (s_ : List (List UInt8)) (v : List UInt8) (t7 : Int) : Int → Option (Int ⊕ (Unit ⊕ Int))
  | t8 =>
    if (decide (t8 < t7)) then
      ck (ixOk t8 s_.length) <|
      if (v == (s_.getD t8.toNat default)) then
        some (.inr (.inr t8))
      else
        some (.inl (IntKind.i64.wrap (t8 + 1)))
    else
      some (.inr (.inl ()))

/-- slices.Index[[]string,string] -/
noncomputable def slices_Index_string_string (s_ : List (List UInt8)) (v : List UInt8) : Option Int :=
  (whileE (slices_Index_string_string_l1 s_ v (s_.length : Int)) 0).bind fun y_4 =>
  match y_4 with
  | .inl y_4a =>
    some (-1)
  | .inr y_4b =>
    some y_4b




/-- impl.readRange -/
noncomputable def impl_readRange (s_ : List UInt8) : Option (Int × Int × Bool) :=
  (hCut s_ ([46, 46] : List UInt8)).bind fun y_1 =>
  (hRdDec y_1.1).bind fun y_2 =>
  (hRdDec y_1.2.1).bind fun y_3 =>
  some (y_2.1, y_3.1, (y_2.2 && y_3.2))

/-- internal/stringslite.HasSuffix -/
noncomputable def internal_stringslite_HasSuffix (s_ : List UInt8) (suffix : List UInt8) : Option Bool :=
  ck (!(decide ((suffix.length : Int) ≤ (s_.length : Int))) || cutOk (IntKind.i64.wrap ((s_.length : Int) - (suffix.length : Int))) (s_.length : Int) s_.length) <|
  some ((decide ((suffix.length : Int) ≤ (s_.length : Int))) && ((cut s_ (IntKind.i64.wrap ((s_.length : Int) - (suffix.length : Int))) (s_.length : Int)) == suffix))

/-- internal/stringslite.TrimSuffix -/
noncomputable def internal_stringslite_TrimSuffix (s_ : List UInt8) (suffix : List UInt8) : Option (List UInt8) :=
  (internal_stringslite_HasSuffix s_ suffix).bind fun y_1 =>
  if y_1 then
    ck (cutOk 0 (IntKind.i64.wrap ((s_.length : Int) - (suffix.length : Int))) s_.length) <|
    some (cut s_ 0 (IntKind.i64.wrap ((s_.length : Int) - (suffix.length : Int))))
  else
    some s_

/-- strings.TrimSuffix -/
noncomputable def strings_TrimSuffix (s_ : List UInt8) (suffix : List UInt8) : Option (List UInt8) :=
  (internal_stringslite_TrimSuffix s_ suffix).bind fun y_1 =>
  some y_1

/-- impl.ReadRule -/
noncomputable def impl_ReadRule (s_ : List UInt8) : Option (Rule × Bool) :=
  (hSplit s_ ([32] : List UInt8)).bind fun y_1 =>
  if (!((y_1.length : Int) == 6)) then
    some ((Rule.mk [] 0 0 0 0 0), false)
  else
    ck (ixOk 2 y_1.length) <|
    (impl_readRange (y_1.getD 2 default)).bind fun y_4 =>
    ck (ixOk 4 y_1.length) <|
    (impl_readRange (y_1.getD 4 default)).bind fun y_6 =>
    (impl_shapeNames).bind fun y_7 =>
    ck (ixOk 5 y_1.length) <|
    (slices_Index_string_string y_7 (y_1.getD 5 default)).bind fun y_9 =>
    if (((!y_4.2.2) || (!y_6.2.2)) || (decide (y_9 < 0))) then
      some ((Rule.mk [] 0 0 0 0 0), false)
    else
      ck (ixOk 0 y_1.length) <|
      (strings_TrimSuffix (y_1.getD 0 default) ([58] : List UInt8)).bind fun y_12 =>
      (impl_RuleText (Rule.mk y_12 y_4.1 y_4.2.1 y_6.1 y_6.2.1 y_9)).bind fun y_13 =>
      if (!(y_13 == s_)) then
        some ((Rule.mk [] 0 0 0 0 0), false)
      else
        some ((Rule.mk y_12 y_4.1 y_4.2.1 y_6.1 y_6.2.1 y_9), true)

noncomputable def spec_l01Dec_l1 (n : Int) : ((List UInt8) × Int) → Option (((List UInt8) × Int) ⊕ (List UInt8))
  | (out, k) =>
    if (!(k == 0)) then
      ck (nz 10) <|
      if (decide ((k.tmod 10) < 0)) then
        ck (appOk (([(toU8 (IntKind.u8.wrap (IntKind.i64.wrap (48 + (IntKind.i64.wrap (0 - (k.tmod 10)))))))] : List UInt8).length + out.length) 1) <|
        some (.inl ((([(toU8 (IntKind.u8.wrap (IntKind.i64.wrap (48 + (IntKind.i64.wrap (0 - (k.tmod 10)))))))] : List UInt8) ++ out), (IntKind.i64.wrap (k.tdiv 10))))
      else
        ck (appOk (([(toU8 (IntKind.u8.wrap (IntKind.i64.wrap (48 + (k.tmod 10)))))] : List UInt8).length + out.length) 1) <|
        some (.inl ((([(toU8 (IntKind.u8.wrap (IntKind.i64.wrap (48 + (k.tmod 10)))))] : List UInt8) ++ out), (IntKind.i64.wrap (k.tdiv 10))))
    else
      some (.inr out)

/-- spec.l01Dec -/
noncomputable def spec_l01Dec (n : Int) : Option (List UInt8) :=
  (whileE (spec_l01Dec_l1 n) (([] : List UInt8), n)).bind fun y_6 =>
  if ((y_6.length : Int) == 0) then
    some ([48] : List UInt8)
  else
    if (decide (n < 0)) then
      ck (catOk ([45] : List UInt8).length y_6.length) <|
      some (([45] : List UInt8) ++ y_6)
    else
      some y_6

/-- spec.l18Shapes -/
noncomputable def spec_l18Shapes  : Option (List (List UInt8)) :=
  some ([([97, 110, 121] : List UInt8), ([115, 105, 110, 101] : List UInt8), ([115, 97, 119] : List UInt8), ([100, 105, 112, 115] : List UInt8)] : List (List UInt8))

/-- spec.l18Text -/
noncomputable def spec_l18Text (r : Rule) : Option (List UInt8) :=
  ck (catOk r.Class.length ([58, 32, 97, 109, 112, 32] : List UInt8).length) <|
  (spec_l01Dec r.FromAmp).bind fun y_2 =>
  ck (catOk (r.Class ++ ([58, 32, 97, 109, 112, 32] : List UInt8)).length y_2.length) <|
  ck (catOk ((r.Class ++ ([58, 32, 97, 109, 112, 32] : List UInt8)) ++ y_2).length ([46, 46] : List UInt8).length) <|
  (spec_l01Dec r.ToAmp).bind fun y_5 =>
  ck (catOk (((r.Class ++ ([58, 32, 97, 109, 112, 32] : List UInt8)) ++ y_2) ++ ([46, 46] : List UInt8)).length y_5.length) <|
  ck (catOk ((((r.Class ++ ([58, 32, 97, 109, 112, 32] : List UInt8)) ++ y_2) ++ ([46, 46] : List UInt8)) ++ y_5).length ([32, 112, 101, 114, 105, 111, 100, 32] : List UInt8).length) <|
  (spec_l01Dec r.FromPer).bind fun y_8 =>
  ck (catOk (((((r.Class ++ ([58, 32, 97, 109, 112, 32] : List UInt8)) ++ y_2) ++ ([46, 46] : List UInt8)) ++ y_5) ++ ([32, 112, 101, 114, 105, 111, 100, 32] : List UInt8)).length y_8.length) <|
  ck (catOk ((((((r.Class ++ ([58, 32, 97, 109, 112, 32] : List UInt8)) ++ y_2) ++ ([46, 46] : List UInt8)) ++ y_5) ++ ([32, 112, 101, 114, 105, 111, 100, 32] : List UInt8)) ++ y_8).length ([46, 46] : List UInt8).length) <|
  (spec_l01Dec r.ToPer).bind fun y_11 =>
  ck (catOk (((((((r.Class ++ ([58, 32, 97, 109, 112, 32] : List UInt8)) ++ y_2) ++ ([46, 46] : List UInt8)) ++ y_5) ++ ([32, 112, 101, 114, 105, 111, 100, 32] : List UInt8)) ++ y_8) ++ ([46, 46] : List UInt8)).length y_11.length) <|
  ck (catOk ((((((((r.Class ++ ([58, 32, 97, 109, 112, 32] : List UInt8)) ++ y_2) ++ ([46, 46] : List UInt8)) ++ y_5) ++ ([32, 112, 101, 114, 105, 111, 100, 32] : List UInt8)) ++ y_8) ++ ([46, 46] : List UInt8)) ++ y_11).length ([32] : List UInt8).length) <|
  (spec_l18Shapes).bind fun y_14 =>
  ck (ixOk r.Shape y_14.length) <|
  ck (catOk (((((((((r.Class ++ ([58, 32, 97, 109, 112, 32] : List UInt8)) ++ y_2) ++ ([46, 46] : List UInt8)) ++ y_5) ++ ([32, 112, 101, 114, 105, 111, 100, 32] : List UInt8)) ++ y_8) ++ ([46, 46] : List UInt8)) ++ y_11) ++ ([32] : List UInt8)).length (y_14.getD r.Shape.toNat default).length) <|
  some ((((((((((r.Class ++ ([58, 32, 97, 109, 112, 32] : List UInt8)) ++ y_2) ++ ([46, 46] : List UInt8)) ++ y_5) ++ ([32, 112, 101, 114, 105, 111, 100, 32] : List UInt8)) ++ y_8) ++ ([46, 46] : List UInt8)) ++ y_11) ++ ([32] : List UInt8)) ++ (y_14.getD r.Shape.toNat default))

/-- spec.l01Spoil -/
noncomputable def spec_l01Spoil (s_ : L00Src) (t : List UInt8) : Option ((List UInt8) × L00Src) :=
  (spec_l00Src_pick s_ 5).bind fun y_1 =>
  if (y_1.1 == 0) then
    (spec_l00Src_pick y_1.2 (IntKind.i64.wrap ((t.length : Int) + 1))).bind fun y_3 =>
    ck (cutOk 0 y_3.1 t.length) <|
    (spec_l00Src_text y_3.2 ([([32] : List UInt8), ([48] : List UInt8), ([45] : List UInt8), ([120] : List UInt8), ([49] : List UInt8), ([57] : List UInt8), ([46] : List UInt8)] : List (List UInt8))).bind fun y_5 =>
    ck (catOk (cut t 0 y_3.1).length y_5.1.length) <|
    ck (cutOk y_3.1 (t.length : Int) t.length) <|
    ck (catOk ((cut t 0 y_3.1) ++ y_5.1).length (cut t y_3.1 (t.length : Int)).length) <|
    some ((((cut t 0 y_3.1) ++ y_5.1) ++ (cut t y_3.1 (t.length : Int))), y_5.2)
  else
    if (y_1.1 == 1) then
      if (!(t == ([] : List UInt8))) then
        (spec_l00Src_pick y_1.2 (t.length : Int)).bind fun y_11 =>
        ck (cutOk 0 y_11.1 t.length) <|
        ck (cutOk (IntKind.i64.wrap (y_11.1 + 1)) (t.length : Int) t.length) <|
        ck (catOk (cut t 0 y_11.1).length (cut t (IntKind.i64.wrap (y_11.1 + 1)) (t.length : Int)).length) <|
        some (((cut t 0 y_11.1) ++ (cut t (IntKind.i64.wrap (y_11.1 + 1)) (t.length : Int))), y_11.2)
      else
        some (t, y_1.2)
    else
      some (t, y_1.2)

/-- spec.DrawReadRule -/
noncomputable def spec_DrawReadRule (code : List UInt8) : Option (List UInt8) :=
  (spec_l00From code).bind fun y_1 =>
  (spec_l18New y_1).bind fun y_2 =>
  (spec_l18Text y_2.1).bind fun y_3 =>
  (spec_l00Src_one y_2.2 3).bind fun y_4 =>
  if y_4.1 then
    (spec_l01Spoil y_4.2 y_3).bind fun y_6 =>
    some y_6.1
  else
    some y_3

noncomputable def spec_l01Split_l1 (s_ : List UInt8) (by_ : UInt8) : ((List (List UInt8)) × Int × Int) → Option (((List (List UInt8)) × Int × Int) ⊕ ((List (List UInt8)) × Int))
  | (out, from_, i) =>
    if (decide (i < (s_.length : Int))) then
      ck (ixOk i s_.length) <|
      if (((s_.getD i.toNat 0).toNat : Int) == (by_.toNat : Int)) then
        ck (cutOk from_ i s_.length) <|
        ck (appOk (out.length + ([(cut s_ from_ i)] : List (List UInt8)).length) 16) <|
        some (.inl ((out ++ ([(cut s_ from_ i)] : List (List UInt8))), (IntKind.i64.wrap (i + 1)), (IntKind.i64.wrap (i + 1))))
      else
        some (.inl (out, from_, (IntKind.i64.wrap (i + 1))))
    else
      some (.inr (out, from_))

/-- spec.l01Split -/
noncomputable def spec_l01Split (s_ : List UInt8) (by_ : UInt8) : Option (List (List UInt8)) :=
  (whileE (spec_l01Split_l1 s_ by_) (([] : List (List UInt8)), 0, 0)).bind fun y_6 =>
  ck (cutOk y_6.2 (s_.length : Int) s_.length) <|
  ck (appOk (y_6.1.length + ([(cut s_ y_6.2 (s_.length : Int))] : List (List UInt8)).length) 16) <|
  some (y_6.1 ++ ([(cut s_ y_6.2 (s_.length : Int))] : List (List UInt8)))

noncomputable def spec_l01Number_l1 (s_ : List UInt8) (t : List UInt8) : (Int × Int) → Option ((Int × Int) ⊕ (Int ⊕ (Int × Bool)))
  | (n, i) =>
    if (decide (i < (t.length : Int))) then
      ck (ixOk i t.length) <|
      (spec_l01Digit (t.getD i.toNat 0)).bind fun y_7 =>
      if (!y_7) then
        some (.inr (.inr (0, false)))
      else
        some (.inl ((IntKind.i64.wrap ((IntKind.i64.wrap (10 * n)) + (IntKind.i64.wrap (IntKind.u8.wrap (((t.getD i.toNat 0).toNat : Int) - 48))))), (IntKind.i64.wrap (i + 1))))
    else
      some (.inr (.inl n))

noncomputable def spec_l01Number_l2 (s_ : List UInt8) (t : List UInt8) : (Int × Int) → Option ((Int × Int) ⊕ (Int ⊕ (Int × Bool)))
  | (n, i) =>
    if (decide (i < (t.length : Int))) then
      ck (ixOk i t.length) <|
      (spec_l01Digit (t.getD i.toNat 0)).bind fun y_18 =>
      if (!y_18) then
        some (.inr (.inr (0, false)))
      else
        some (.inl ((IntKind.i64.wrap ((IntKind.i64.wrap (10 * n)) + (IntKind.i64.wrap (IntKind.u8.wrap (((t.getD i.toNat 0).toNat : Int) - 48))))), (IntKind.i64.wrap (i + 1))))
    else
      some (.inr (.inl n))

/-- spec.l01Number -/
noncomputable def spec_l01Number (s_ : List UInt8) : Option (Int × Bool) :=
  ck (!(!(s_ == ([] : List UInt8))) || ixOk 0 s_.length) <|
  if ((!(s_ == ([] : List UInt8))) && (((s_.getD 0 0).toNat : Int) == 45)) then
    ck (cutOk 1 (s_.length : Int) s_.length) <|
    if ((decide (((cut s_ 1 (s_.length : Int)).length : Int) < 1)) || (decide (18 < ((cut s_ 1 (s_.length : Int)).length : Int)))) then
      some (0, false)
    else
      (whileE (spec_l01Number_l1 s_ (cut s_ 1 (s_.length : Int))) (0, 0)).bind fun y_9 =>
      match y_9 with
      | .inl y_9a =>
        if (decide (((cut s_ 1 (s_.length : Int)).length : Int) < (s_.length : Int))) then
          (spec_l01Dec (IntKind.i64.wrap (0 - y_9a))).bind fun y_11 =>
          if (!(y_11 == s_)) then
            some (0, false)
          else
            some ((IntKind.i64.wrap (0 - y_9a)), true)
        else
          (spec_l01Dec y_9a).bind fun y_13 =>
          if (!(y_13 == s_)) then
            some (0, false)
          else
            some (y_9a, true)
      | .inr y_9b =>
        some (y_9b.1, y_9b.2)
  else
    if ((decide ((s_.length : Int) < 1)) || (decide (18 < (s_.length : Int)))) then
      some (0, false)
    else
      (whileE (spec_l01Number_l2 s_ s_) (0, 0)).bind fun y_20 =>
      match y_20 with
      | .inl y_20a =>
        if (decide ((s_.length : Int) < (s_.length : Int))) then
          (spec_l01Dec (IntKind.i64.wrap (0 - y_20a))).bind fun y_22 =>
          if (!(y_22 == s_)) then
            some (0, false)
          else
            some ((IntKind.i64.wrap (0 - y_20a)), true)
        else
          (spec_l01Dec y_20a).bind fun y_24 =>
          if (!(y_24 == s_)) then
            some (0, false)
          else
            some (y_20a, true)
      | .inr y_20b =>
        some (y_20b.1, y_20b.2)

/-- spec.l18Range -/
noncomputable def spec_l18Range (s_ : List UInt8) : Option (Int × Int × Bool) :=
  (spec_l01Split s_ (46 : UInt8)).bind fun y_1 =>
  ck (!(!(!((y_1.length : Int) == 3))) || ixOk 1 y_1.length) <|
  if ((!((y_1.length : Int) == 3)) || (!((y_1.getD 1 default) == ([] : List UInt8)))) then
    some (0, 0, false)
  else
    ck (ixOk 0 y_1.length) <|
    (spec_l01Number (y_1.getD 0 default)).bind fun y_5 =>
    ck (ixOk 2 y_1.length) <|
    (spec_l01Number (y_1.getD 2 default)).bind fun y_7 =>
    some (y_5.1, y_7.1, (y_5.2 && y_7.2))

noncomputable def spec_ReadRule_l1 (t2 : Rule) (w : List (List UInt8)) (fromAmp : Int) (toAmp : Int) (one : Bool) (fromPer : Int) (toPer : Int) (two : Bool) (words : List (List UInt8)) : (Int × Int) → Option ((Int × Int) ⊕ Int)
  | (shape, i) =>
    if (decide (i < (words.length : Int))) then
      ck (ixOk i words.length) <|
      ck (ixOk 5 w.length) <|
      if ((words.getD i.toNat default) == (w.getD 5 default)) then
        some (.inl (i, (IntKind.i64.wrap (i + 1))))
      else
        some (.inl (shape, (IntKind.i64.wrap (i + 1))))
    else
      some (.inr shape)

/-- spec.ReadRule -/
noncomputable def spec_ReadRule (s_ : List UInt8) : Option (Rule × Bool) :=
  (spec_l01Split s_ (32 : UInt8)).bind fun y_1 =>
  ck (!(!(!((y_1.length : Int) == 6))) || ixOk 1 y_1.length) <|
  ck (!(!((!((y_1.length : Int) == 6)) || (!((y_1.getD 1 default) == ([97, 109, 112] : List UInt8))))) || ixOk 3 y_1.length) <|
  ck (!(!(((!((y_1.length : Int) == 6)) || (!((y_1.getD 1 default) == ([97, 109, 112] : List UInt8)))) || (!((y_1.getD 3 default) == ([112, 101, 114, 105, 111, 100] : List UInt8))))) || ixOk 0 y_1.length) <|
  ck (!(!((((!((y_1.length : Int) == 6)) || (!((y_1.getD 1 default) == ([97, 109, 112] : List UInt8)))) || (!((y_1.getD 3 default) == ([112, 101, 114, 105, 111, 100] : List UInt8)))) || (decide (((y_1.getD 0 default).length : Int) < 1)))) || ixOk 0 y_1.length) <|
  ck (!(!((((!((y_1.length : Int) == 6)) || (!((y_1.getD 1 default) == ([97, 109, 112] : List UInt8)))) || (!((y_1.getD 3 default) == ([112, 101, 114, 105, 111, 100] : List UInt8)))) || (decide (((y_1.getD 0 default).length : Int) < 1)))) || ixOk (IntKind.i64.wrap (((y_1.getD 0 default).length : Int) - 1)) ((y_1.getD 0 default).length)) <|
  if (((((!((y_1.length : Int) == 6)) || (!((y_1.getD 1 default) == ([97, 109, 112] : List UInt8)))) || (!((y_1.getD 3 default) == ([112, 101, 114, 105, 111, 100] : List UInt8)))) || (decide (((y_1.getD 0 default).length : Int) < 1))) || (!((((y_1.getD 0 default).getD (IntKind.i64.wrap (((y_1.getD 0 default).length : Int) - 1)).toNat 0).toNat : Int) == 58))) then
    some ((Rule.mk [] 0 0 0 0 0), false)
  else
    ck (ixOk 2 y_1.length) <|
    (spec_l18Range (y_1.getD 2 default)).bind fun y_9 =>
    ck (ixOk 4 y_1.length) <|
    (spec_l18Range (y_1.getD 4 default)).bind fun y_11 =>
    (spec_l18Shapes).bind fun y_12 =>
    (whileE (spec_ReadRule_l1 (Rule.mk [] 0 0 0 0 0) y_1 y_9.1 y_9.2.1 y_9.2.2 y_11.1 y_11.2.1 y_11.2.2 y_12) ((-1), 0)).bind fun y_17 =>
    ck (ixOk 0 y_1.length) <|
    ck (cutOk 0 (IntKind.i64.wrap (((y_1.getD 0 default).length : Int) - 1)) ((y_1.getD 0 default).length)) <|
    ck (!(!((!y_9.2.2) || (!y_11.2.2))) || (spec_l18One (Rule.mk (cut (y_1.getD 0 default) 0 (IntKind.i64.wrap (((y_1.getD 0 default).length : Int) - 1))) y_9.1 y_9.2.1 y_11.1 y_11.2.1 y_17)).isSome) <|
    if (((!y_9.2.2) || (!y_11.2.2)) || (!((spec_l18One (Rule.mk (cut (y_1.getD 0 default) 0 (IntKind.i64.wrap (((y_1.getD 0 default).length : Int) - 1))) y_9.1 y_9.2.1 y_11.1 y_11.2.1 y_17)).getD default))) then
      some ((Rule.mk [] 0 0 0 0 0), false)
    else
      some ((Rule.mk (cut (y_1.getD 0 default) 0 (IntKind.i64.wrap (((y_1.getD 0 default).length : Int) - 1))) y_9.1 y_9.2.1 y_11.1 y_11.2.1 y_17), true)

/-- spec.DrawSameRules -/
noncomputable def spec_DrawSameRules (code : List UInt8) : Option ((List Rule) × (List Rule)) :=
  (spec_l00From code).bind fun y_1 =>
  (spec_l18Bent y_1).bind fun y_2 =>
  ck (appOk (([] : List Rule).length + y_2.1.length) 56) <|
  if (decide (0 < ((([] : List Rule) ++ y_2.1).length : Int))) then
    (spec_l00Src_one y_2.2 2).bind fun y_5 =>
    if ((decide (0 < ((([] : List Rule) ++ y_2.1).length : Int))) && y_5.1) then
      ck (ixOk 0 ((([] : List Rule) ++ y_2.1).length)) <|
      (spec_l00Src_pick y_5.2 2).bind fun y_8 =>
      (spec_l00Src_one y_8.2 5).bind fun y_9 =>
      if y_9.1 then
        ck (appOk (((([] : List Rule) ++ y_2.1).set 0 (Rule.mk (((([] : List Rule) ++ y_2.1).getD 0 default).Class) (((([] : List Rule) ++ y_2.1).getD 0 default).FromAmp) (IntKind.i64.wrap ((((([] : List Rule) ++ y_2.1).getD 0 default).ToAmp) + y_8.1)) (((([] : List Rule) ++ y_2.1).getD 0 default).FromPer) (((([] : List Rule) ++ y_2.1).getD 0 default).ToPer) (((([] : List Rule) ++ y_2.1).getD 0 default).Shape))).length + ([(Rule.mk [] 0 0 0 0 0)] : List Rule).length) 56) <|
        some (y_2.1, (((([] : List Rule) ++ y_2.1).set 0 (Rule.mk (((([] : List Rule) ++ y_2.1).getD 0 default).Class) (((([] : List Rule) ++ y_2.1).getD 0 default).FromAmp) (IntKind.i64.wrap ((((([] : List Rule) ++ y_2.1).getD 0 default).ToAmp) + y_8.1)) (((([] : List Rule) ++ y_2.1).getD 0 default).FromPer) (((([] : List Rule) ++ y_2.1).getD 0 default).ToPer) (((([] : List Rule) ++ y_2.1).getD 0 default).Shape))) ++ ([(Rule.mk [] 0 0 0 0 0)] : List Rule)))
      else
        some (y_2.1, ((([] : List Rule) ++ y_2.1).set 0 (Rule.mk (((([] : List Rule) ++ y_2.1).getD 0 default).Class) (((([] : List Rule) ++ y_2.1).getD 0 default).FromAmp) (IntKind.i64.wrap ((((([] : List Rule) ++ y_2.1).getD 0 default).ToAmp) + y_8.1)) (((([] : List Rule) ++ y_2.1).getD 0 default).FromPer) (((([] : List Rule) ++ y_2.1).getD 0 default).ToPer) (((([] : List Rule) ++ y_2.1).getD 0 default).Shape))))
    else
      (spec_l00Src_one y_5.2 5).bind fun y_12 =>
      if y_12.1 then
        ck (appOk ((([] : List Rule) ++ y_2.1).length + ([(Rule.mk [] 0 0 0 0 0)] : List Rule).length) 56) <|
        some (y_2.1, ((([] : List Rule) ++ y_2.1) ++ ([(Rule.mk [] 0 0 0 0 0)] : List Rule)))
      else
        some (y_2.1, (([] : List Rule) ++ y_2.1))
  else
    (spec_l00Src_one y_2.2 5).bind fun y_15 =>
    if y_15.1 then
      ck (appOk ((([] : List Rule) ++ y_2.1).length + ([(Rule.mk [] 0 0 0 0 0)] : List Rule).length) 56) <|
      some (y_2.1, ((([] : List Rule) ++ y_2.1) ++ ([(Rule.mk [] 0 0 0 0 0)] : List Rule)))
    else
      some (y_2.1, (([] : List Rule) ++ y_2.1))

noncomputable def laws_f6ints_l1 (a : List Int) (b : List Int) : Int → Option (Int ⊕ (Unit ⊕ Bool))
  | i =>
    if (decide (i < (a.length : Int))) then
      ck (ixOk i a.length) <|
      ck (ixOk i b.length) <|
      if (!((a.getD i.toNat default) == (b.getD i.toNat default))) then
        some (.inr (.inr false))
      else
        some (.inl (IntKind.i64.wrap (i + 1)))
    else
      some (.inr (.inl ()))

/-- laws.f6ints -/
noncomputable def laws_f6ints (a : List Int) (b : List Int) : Option Bool :=
  if (!((a.length : Int) == (b.length : Int))) then
    some false
  else
    (whileE (laws_f6ints_l1 a b) 0).bind fun y_6 =>
    match y_6 with
    | .inl y_6a =>
      some true
    | .inr y_6b =>
      some y_6b

noncomputable def spec_SameRules_l1 (a : List Rule) (b : List Rule) : Int → Option (Int ⊕ (Unit ⊕ Bool))
  | i =>
    if (decide (i < (a.length : Int))) then
      ck (ixOk i a.length) <|
      ck (ixOk i b.length) <|
      if (!((((a.getD i.toNat default).Class) == ((b.getD i.toNat default).Class)) && ((((a.getD i.toNat default).FromAmp) == ((b.getD i.toNat default).FromAmp)) && ((((a.getD i.toNat default).ToAmp) == ((b.getD i.toNat default).ToAmp)) && ((((a.getD i.toNat default).FromPer) == ((b.getD i.toNat default).FromPer)) && ((((a.getD i.toNat default).ToPer) == ((b.getD i.toNat default).ToPer)) && (((a.getD i.toNat default).Shape) == ((b.getD i.toNat default).Shape)))))))) then
        some (.inr (.inr false))
      else
        some (.inl (IntKind.i64.wrap (i + 1)))
    else
      some (.inr (.inl ()))

/-- spec.SameRules -/
noncomputable def spec_SameRules (a : List Rule) (b : List Rule) : Option Bool :=
  if (!((a.length : Int) == (b.length : Int))) then
    some false
  else
    (whileE (spec_SameRules_l1 a b) 0).bind fun y_6 =>
    match y_6 with
    | .inl y_6a =>
      some true
    | .inr y_6b =>
      some y_6b

/-- spec.RuleText -/
noncomputable def spec_RuleText (r : Rule) : Option (List UInt8) :=
  (spec_l18One r).bind fun y_1 =>
  if (!y_1) then
    some ([] : List UInt8)
  else
    (spec_l18Text r).bind fun y_3 =>
    some y_3

noncomputable def slices_Equal_impl_Rule_impl_Rule_l1 (s1 : List Rule) (s2 : List Rule) (t12 : Int) : Int → Option (Int ⊕ (Unit ⊕ Bool))
  | t13 =>
    if (decide (t13 < t12)) then
      ck (ixOk t13 s1.length) <|
      ck (ixOk t13 s2.length) <|
      if (!((((s1.getD t13.toNat default).Class) == ((s2.getD t13.toNat default).Class)) && ((((s1.getD t13.toNat default).FromAmp) == ((s2.getD t13.toNat default).FromAmp)) && ((((s1.getD t13.toNat default).ToAmp) == ((s2.getD t13.toNat default).ToAmp)) && ((((s1.getD t13.toNat default).FromPer) == ((s2.getD t13.toNat default).FromPer)) && ((((s1.getD t13.toNat default).ToPer) == ((s2.getD t13.toNat default).ToPer)) && (((s1.getD t13.toNat default).Shape) == ((s2.getD t13.toNat default).Shape)))))))) then
        some (.inr (.inr false))
      else
        some (.inl (IntKind.i64.wrap (t13 + 1)))
    else
      some (.inr (.inl ()))

/-- slices.Equal[[]impl.Rule,impl.Rule] -/
noncomputable def slices_Equal_impl_Rule_impl_Rule (s1 : List Rule) (s2 : List Rule) : Option Bool :=
  if (!((s1.length : Int) == (s2.length : Int))) then
    some false
  else
    (whileE (slices_Equal_impl_Rule_impl_Rule_l1 s1 s2 (s1.length : Int)) 0).bind fun y_6 =>
    match y_6 with
    | .inl y_6a =>
      some true
    | .inr y_6b =>
      some y_6b

/-- impl.SameRules -/
noncomputable def impl_SameRules (a : List Rule) (b : List Rule) : Option Bool :=
  (slices_Equal_impl_Rule_impl_Rule a b).bind fun y_1 =>
  some y_1

/-- spec.ValidRules -/
noncomputable def spec_ValidRules (list : List Rule) : Option Bool :=
  (spec_l18Ok list).bind fun y_1 =>
  some y_1

/-- laws.FnRules -/
noncomputable def laws_FnRules (code : List UInt8) : Option Bool :=
  (laws_f6big code).bind fun y_1 =>
  if y_1 then
    some true
  else
    (spec_DrawClassOf code).bind fun y_3 =>
    (impl_ClassOf y_3.1 y_3.2).bind fun y_4 =>
    (spec_ClassOf y_3.1 y_3.2).bind fun y_5 =>
    (impl_RulesFor y_3.1 y_3.2).bind fun y_6 =>
    (spec_RulesFor y_3.1 y_3.2).bind fun y_7 =>
    (spec_DrawMatchesRule code).bind fun y_8 =>
    (impl_MatchesRule y_8.1 y_8.2).bind fun y_9 =>
    (spec_MatchesRule y_8.1 y_8.2).bind fun y_10 =>
    (spec_DrawMoveRule code).bind fun y_11 =>
    (impl_MoveRule y_11.1 y_11.2.1 y_11.2.2).bind fun y_12 =>
    (spec_MoveRule y_11.1 y_11.2.1 y_11.2.2).bind fun y_13 =>
    (spec_DrawRuleText code).bind fun y_14 =>
    (impl_RuleText y_14).bind fun y_15 =>
    (impl_ReadRule y_15).bind fun y_16 =>
    (spec_DrawReadRule code).bind fun y_17 =>
    (impl_ReadRule y_17).bind fun y_18 =>
    (spec_ReadRule y_17).bind fun y_19 =>
    (spec_DrawSameRules code).bind fun y_20 =>
    ck (!(!(((!(y_4.2 == y_5.2)) || (!(y_4.1 == y_5.1))) || (!(y_6.2 == y_7.2)))) || (laws_f6ints y_6.1 y_7.1).isSome) <|
    ck (!(!(((((((!(y_4.2 == y_5.2)) || (!(y_4.1 == y_5.1))) || (!(y_6.2 == y_7.2))) || (!((laws_f6ints y_6.1 y_7.1).getD default))) || (!(y_9.2 == y_10.2))) || (!(y_9.1 == y_10.1))) || (!(y_12.2 == y_13.2)))) || (spec_SameRules y_12.1 y_13.1).isSome) <|
    ck (!(!((((((((!(y_4.2 == y_5.2)) || (!(y_4.1 == y_5.1))) || (!(y_6.2 == y_7.2))) || (!((laws_f6ints y_6.1 y_7.1).getD default))) || (!(y_9.2 == y_10.2))) || (!(y_9.1 == y_10.1))) || (!(y_12.2 == y_13.2))) || (!((spec_SameRules y_12.1 y_13.1).getD default)))) || (spec_RuleText y_14).isSome) <|
    ck (!(!(((((((((((((!(y_4.2 == y_5.2)) || (!(y_4.1 == y_5.1))) || (!(y_6.2 == y_7.2))) || (!((laws_f6ints y_6.1 y_7.1).getD default))) || (!(y_9.2 == y_10.2))) || (!(y_9.1 == y_10.1))) || (!(y_12.2 == y_13.2))) || (!((spec_SameRules y_12.1 y_13.1).getD default))) || (!(y_15 == ((spec_RuleText y_14).getD default)))) || (!(y_16.2 == (!(y_15 == ([] : List UInt8)))))) || (y_16.2 && (!((y_16.1.Class == y_14.Class) && ((y_16.1.FromAmp == y_14.FromAmp) && ((y_16.1.ToAmp == y_14.ToAmp) && ((y_16.1.FromPer == y_14.FromPer) && ((y_16.1.ToPer == y_14.ToPer) && (y_16.1.Shape == y_14.Shape))))))))) || (!(y_18.2 == y_19.2))) || (!((y_18.1.Class == y_19.1.Class) && ((y_18.1.FromAmp == y_19.1.FromAmp) && ((y_18.1.ToAmp == y_19.1.ToAmp) && ((y_18.1.FromPer == y_19.1.FromPer) && ((y_18.1.ToPer == y_19.1.ToPer) && (y_18.1.Shape == y_19.1.Shape))))))))) || (impl_SameRules y_20.1 y_20.2).isSome) <|
    ck (!(!(((((((((((((!(y_4.2 == y_5.2)) || (!(y_4.1 == y_5.1))) || (!(y_6.2 == y_7.2))) || (!((laws_f6ints y_6.1 y_7.1).getD default))) || (!(y_9.2 == y_10.2))) || (!(y_9.1 == y_10.1))) || (!(y_12.2 == y_13.2))) || (!((spec_SameRules y_12.1 y_13.1).getD default))) || (!(y_15 == ((spec_RuleText y_14).getD default)))) || (!(y_16.2 == (!(y_15 == ([] : List UInt8)))))) || (y_16.2 && (!((y_16.1.Class == y_14.Class) && ((y_16.1.FromAmp == y_14.FromAmp) && ((y_16.1.ToAmp == y_14.ToAmp) && ((y_16.1.FromPer == y_14.FromPer) && ((y_16.1.ToPer == y_14.ToPer) && (y_16.1.Shape == y_14.Shape))))))))) || (!(y_18.2 == y_19.2))) || (!((y_18.1.Class == y_19.1.Class) && ((y_18.1.FromAmp == y_19.1.FromAmp) && ((y_18.1.ToAmp == y_19.1.ToAmp) && ((y_18.1.FromPer == y_19.1.FromPer) && ((y_18.1.ToPer == y_19.1.ToPer) && (y_18.1.Shape == y_19.1.Shape))))))))) || (spec_SameRules y_20.1 y_20.2).isSome) <|
    ck (!(!((((((((((((((!(y_4.2 == y_5.2)) || (!(y_4.1 == y_5.1))) || (!(y_6.2 == y_7.2))) || (!((laws_f6ints y_6.1 y_7.1).getD default))) || (!(y_9.2 == y_10.2))) || (!(y_9.1 == y_10.1))) || (!(y_12.2 == y_13.2))) || (!((spec_SameRules y_12.1 y_13.1).getD default))) || (!(y_15 == ((spec_RuleText y_14).getD default)))) || (!(y_16.2 == (!(y_15 == ([] : List UInt8)))))) || (y_16.2 && (!((y_16.1.Class == y_14.Class) && ((y_16.1.FromAmp == y_14.FromAmp) && ((y_16.1.ToAmp == y_14.ToAmp) && ((y_16.1.FromPer == y_14.FromPer) && ((y_16.1.ToPer == y_14.ToPer) && (y_16.1.Shape == y_14.Shape))))))))) || (!(y_18.2 == y_19.2))) || (!((y_18.1.Class == y_19.1.Class) && ((y_18.1.FromAmp == y_19.1.FromAmp) && ((y_18.1.ToAmp == y_19.1.ToAmp) && ((y_18.1.FromPer == y_19.1.FromPer) && ((y_18.1.ToPer == y_19.1.ToPer) && (y_18.1.Shape == y_19.1.Shape)))))))) || (!(((impl_SameRules y_20.1 y_20.2).getD default) == ((spec_SameRules y_20.1 y_20.2).getD default))))) || (impl_ValidRules y_3.1).isSome) <|
    ck (!(!((((((((((((((!(y_4.2 == y_5.2)) || (!(y_4.1 == y_5.1))) || (!(y_6.2 == y_7.2))) || (!((laws_f6ints y_6.1 y_7.1).getD default))) || (!(y_9.2 == y_10.2))) || (!(y_9.1 == y_10.1))) || (!(y_12.2 == y_13.2))) || (!((spec_SameRules y_12.1 y_13.1).getD default))) || (!(y_15 == ((spec_RuleText y_14).getD default)))) || (!(y_16.2 == (!(y_15 == ([] : List UInt8)))))) || (y_16.2 && (!((y_16.1.Class == y_14.Class) && ((y_16.1.FromAmp == y_14.FromAmp) && ((y_16.1.ToAmp == y_14.ToAmp) && ((y_16.1.FromPer == y_14.FromPer) && ((y_16.1.ToPer == y_14.ToPer) && (y_16.1.Shape == y_14.Shape))))))))) || (!(y_18.2 == y_19.2))) || (!((y_18.1.Class == y_19.1.Class) && ((y_18.1.FromAmp == y_19.1.FromAmp) && ((y_18.1.ToAmp == y_19.1.ToAmp) && ((y_18.1.FromPer == y_19.1.FromPer) && ((y_18.1.ToPer == y_19.1.ToPer) && (y_18.1.Shape == y_19.1.Shape)))))))) || (!(((impl_SameRules y_20.1 y_20.2).getD default) == ((spec_SameRules y_20.1 y_20.2).getD default))))) || (spec_ValidRules y_3.1).isSome) <|
    if (((((((((((((((!(y_4.2 == y_5.2)) || (!(y_4.1 == y_5.1))) || (!(y_6.2 == y_7.2))) || (!((laws_f6ints y_6.1 y_7.1).getD default))) || (!(y_9.2 == y_10.2))) || (!(y_9.1 == y_10.1))) || (!(y_12.2 == y_13.2))) || (!((spec_SameRules y_12.1 y_13.1).getD default))) || (!(y_15 == ((spec_RuleText y_14).getD default)))) || (!(y_16.2 == (!(y_15 == ([] : List UInt8)))))) || (y_16.2 && (!((y_16.1.Class == y_14.Class) && ((y_16.1.FromAmp == y_14.FromAmp) && ((y_16.1.ToAmp == y_14.ToAmp) && ((y_16.1.FromPer == y_14.FromPer) && ((y_16.1.ToPer == y_14.ToPer) && (y_16.1.Shape == y_14.Shape))))))))) || (!(y_18.2 == y_19.2))) || (!((y_18.1.Class == y_19.1.Class) && ((y_18.1.FromAmp == y_19.1.FromAmp) && ((y_18.1.ToAmp == y_19.1.ToAmp) && ((y_18.1.FromPer == y_19.1.FromPer) && ((y_18.1.ToPer == y_19.1.ToPer) && (y_18.1.Shape == y_19.1.Shape)))))))) || (!(((impl_SameRules y_20.1 y_20.2).getD default) == ((spec_SameRules y_20.1 y_20.2).getD default)))) || (!(((impl_ValidRules y_3.1).getD default) == ((spec_ValidRules y_3.1).getD default)))) then
      some false
    else
      if (y_12.2 == 0) then
        (impl_MoveRule y_12.1 y_11.2.2 y_11.2.1).bind fun y_30 =>
        ck (!(!(!(y_30.2 == 0))) || (spec_SameRules y_30.1 y_11.1).isSome) <|
        if ((!(y_30.2 == 0)) || (!((spec_SameRules y_30.1 y_11.1).getD default))) then
          some false
        else
          if (!(y_6.2 == 0)) then
            some true
          else
            if (!(y_4.2 == 0)) then
              some ((y_7.1.length : Int) == 0)
            else
              ck (!(decide (0 < (y_7.1.length : Int))) || ixOk 0 y_7.1.length) <|
              ck (!(decide (0 < (y_7.1.length : Int))) || ixOk (y_7.1.getD 0 default) y_3.1.length) <|
              some ((decide (0 < (y_7.1.length : Int))) && (((y_3.1.getD (y_7.1.getD 0 default).toNat default).Class) == y_4.1))
      else
        if (!(y_6.2 == 0)) then
          some true
        else
          if (!(y_4.2 == 0)) then
            some ((y_7.1.length : Int) == 0)
          else
            ck (!(decide (0 < (y_7.1.length : Int))) || ixOk 0 y_7.1.length) <|
            ck (!(decide (0 < (y_7.1.length : Int))) || ixOk (y_7.1.getD 0 default) y_3.1.length) <|
            some ((decide (0 < (y_7.1.length : Int))) && (((y_3.1.getD (y_7.1.getD 0 default).toNat default).Class) == y_4.1))

end Go.Proofs.YtelkmhdolnjnpaaGreatDoor
