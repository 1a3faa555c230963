/- Typed forms of the functions that RE reaches. No condition. -/
import Derived.Test.YtlnpnpjkpkdoeaaEngSH
namespace Go.Proofs.Ytlnpnpjkpkdoeaa
open Go Go.RowKit
set_option linter.unusedVariables false

structure Rule where
  Class : List UInt8
  FromAmp : Int
  ToAmp : Int
  FromPer : Int
  ToPer : Int
  Shape : Int
  deriving Inhabited, DecidableEq
def Rule_av (x : Rule) : AV := .agg ([.str x.Class, .int .i64 x.FromAmp, .int .i64 x.ToAmp, .int .i64 x.FromPer, .int .i64 x.ToPer, .int .i64 x.Shape])

structure L00Src where
  code_ : List UInt8
  at_ : Int
  seed_ : Int
  deriving Inhabited, DecidableEq
def L00Src_av (x : L00Src) : AV := .agg ([.sl 1 (List.map byteAV x.code_), .int .i64 x.at_, .int .u64 x.seed_])

structure Facts where
  Amp : Int
  Period : Int
  Shape : Int
  deriving Inhabited, DecidableEq
def Facts_av (x : Facts) : AV := .agg ([.int .i64 x.Amp, .int .i64 x.Period, .int .i64 x.Shape])

attribute [go_sem] Rule_av L00Src_av Facts_av

noncomputable def impl_IsName_l1 (s_ : List UInt8) (t15 : Int) : Int → Option (Int ⊕ (Unit ⊕ Bool))
  | t16 =>
    if (decide (t16 < t15)) then
      ck (ixOk t16 s_.length) <|
      if ((!((decide (97 ≤ ((s_.getD t16.toNat 0).toNat : Int))) && (decide (((s_.getD t16.toNat 0).toNat : Int) ≤ 122)))) && ((t16 == 0) || (!(((decide (48 ≤ ((s_.getD t16.toNat 0).toNat : Int))) && (decide (((s_.getD t16.toNat 0).toNat : Int) ≤ 57))) || (((s_.getD t16.toNat 0).toNat : Int) == 45))))) then
        some (.inr (.inr false))
      else
        some (.inl (IntKind.i64.wrap (t16 + 1)))
    else
      some (.inr (.inl ()))

/-- impl.IsName -/
noncomputable def impl_IsName (s_ : List UInt8) : Option Bool :=
  if ((decide ((s_.length : Int) < 1)) || (decide (12 < (s_.length : Int)))) then
    some false
  else
    (whileE (impl_IsName_l1 s_ (s_.length : Int)) 0).bind fun y_5 =>
    match y_5 with
    | .inl y_5a =>
      some true
    | .inr y_5b =>
      some y_5b

/-- impl.in -/
noncomputable def impl_in (n : Int) (low : Int) (high : Int) : Option Bool :=
  some ((decide (low ≤ n)) && (decide (n ≤ high)))

/-- impl.isRule -/
noncomputable def impl_isRule (r : Rule) : Option Bool :=
  (impl_IsName r.Class).bind fun y_1 =>
  ck (!((y_1 && (((decide (0 ≤ r.FromAmp)) && (decide (r.FromAmp ≤ r.ToAmp))) && (decide (r.ToAmp ≤ 20000)))) && (((decide (0 ≤ r.FromPer)) && (decide (r.FromPer ≤ r.ToPer))) && (decide (r.ToPer ≤ 1000000)))) || (impl_in r.Shape 0 3).isSome) <|
  some (((y_1 && (((decide (0 ≤ r.FromAmp)) && (decide (r.FromAmp ≤ r.ToAmp))) && (decide (r.ToAmp ≤ 20000)))) && (((decide (0 ≤ r.FromPer)) && (decide (r.FromPer ≤ r.ToPer))) && (decide (r.ToPer ≤ 1000000)))) && ((impl_in r.Shape 0 3).getD default))

/-- impl.ValidRules$1 -/
noncomputable def impl_ValidRules_c1 (r : Rule) : Option Bool :=
  (impl_isRule r).bind fun y_1 =>
  some (!y_1)

noncomputable def slices_IndexFunc_impl_Rule_impl_Rule__impl_ValidRules_c1_l1 (s_ : List Rule) (t7 : Int) : Int → Option (Int ⊕ (Unit ⊕ Int))
  | t8 =>
    if (decide (t8 < t7)) then
      ck (ixOk t8 s_.length) <|
      (impl_ValidRules_c1 (s_.getD t8.toNat default)).bind fun y_3 =>
      if y_3 then
        some (.inr (.inr t8))
      else
        some (.inl (IntKind.i64.wrap (t8 + 1)))
    else
      some (.inr (.inl ()))

/-- slices.IndexFunc[[]impl.Rule,impl.Rule] -/
noncomputable def slices_IndexFunc_impl_Rule_impl_Rule__impl_ValidRules_c1 (s_ : List Rule) : Option Int :=
  (whileE (slices_IndexFunc_impl_Rule_impl_Rule__impl_ValidRules_c1_l1 s_ (s_.length : Int)) 0).bind fun y_5 =>
  match y_5 with
  | .inl y_5a =>
    some (-1)
  | .inr y_5b =>
    some y_5b

/-- slices.ContainsFunc[[]impl.Rule,impl.Rule] -/
noncomputable def slices_ContainsFunc_impl_Rule_impl_Rule__impl_ValidRules_c1 (s_ : List Rule) : Option Bool :=
  (slices_IndexFunc_impl_Rule_impl_Rule__impl_ValidRules_c1 s_).bind fun y_1 =>
  some (decide (0 ≤ y_1))

/-- impl.ValidRules -/
noncomputable def impl_ValidRules (list : List Rule) : Option Bool :=
  ck (!(decide ((list.length : Int) ≤ 12)) || (slices_ContainsFunc_impl_Rule_impl_Rule__impl_ValidRules_c1 list).isSome) <|
  some ((decide ((list.length : Int) ≤ 12)) && (!((slices_ContainsFunc_impl_Rule_impl_Rule__impl_ValidRules_c1 list).getD default)))

/-- impl.count[impl.Rule] -/
noncomputable def impl_count_impl_Rule (list : List Rule) : Option Int :=
  some (list.length : Int)

/-- impl.RulesOverlap -/
noncomputable def impl_RulesOverlap (list : List Rule) (a : Int) (b : Int) : Option (Bool × Int) :=
  (impl_ValidRules list).bind fun y_1 =>
  if (!y_1) then
    some (false, 1)
  else
    (impl_count_impl_Rule list).bind fun y_3 =>
    (impl_in a 0 (IntKind.i64.wrap (y_3 - 1))).bind fun y_4 =>
    ck (!(!(!y_4)) || (impl_in b 0 (IntKind.i64.wrap (y_3 - 1))).isSome) <|
    if ((!y_4) || (!((impl_in b 0 (IntKind.i64.wrap (y_3 - 1))).getD default))) then
      some (false, 2)
    else
      ck (ixOk a list.length) <|
      ck (ixOk b list.length) <|
      some ((((decide ((if ((list.getD a.toNat default).FromAmp) < ((list.getD b.toNat default).FromAmp) then ((list.getD b.toNat default).FromAmp) else ((list.getD a.toNat default).FromAmp)) ≤ (if ((list.getD b.toNat default).ToAmp) < ((list.getD a.toNat default).ToAmp) then ((list.getD b.toNat default).ToAmp) else ((list.getD a.toNat default).ToAmp)))) && (decide ((if ((list.getD a.toNat default).FromPer) < ((list.getD b.toNat default).FromPer) then ((list.getD b.toNat default).FromPer) else ((list.getD a.toNat default).FromPer)) ≤ (if ((list.getD b.toNat default).ToPer) < ((list.getD a.toNat default).ToPer) then ((list.getD b.toNat default).ToPer) else ((list.getD a.toNat default).ToPer))))) && (((((list.getD a.toNat default).Shape) == ((list.getD b.toNat default).Shape)) || (((list.getD a.toNat default).Shape) == 0)) || (((list.getD b.toNat default).Shape) == 0))), 0)

/-- laws.f6big -/
noncomputable def laws_f6big (code : List UInt8) : Option Bool :=
  some (decide (4096 < (code.length : Int)))

/-- spec.l00From -/
noncomputable def spec_l00From (code : List UInt8) : Option L00Src :=
  some (L00Src.mk code 0 0)

/-- (*spec.l00Src).next -/
noncomputable def spec_l00Src_next (s_ : L00Src) : Option (Int × L00Src) :=
  if (decide (s_.at_ < (s_.code_.length : Int))) then
    ck (ixOk s_.at_ s_.code_.length) <|
    if (decide ((IntKind.i64.wrap (s_.at_ + 1)) ≤ (s_.code_.length : Int))) then
      some (((s_.code_.getD s_.at_.toNat default).toNat : Int), (L00Src.mk s_.code_ (IntKind.i64.wrap (s_.at_ + 1)) (IntKind.u64.wrap ((IntKind.u64.wrap ((IntKind.u64.wrap (s_.seed_ * 6364136223846793005)) + (IntKind.u64.wrap ((s_.code_.getD s_.at_.toNat default).toNat : Int)))) + 1442695040888963407))))
    else
      ck (shOk 40) <|
      some ((IntKind.i64.wrap (IntKind.u64.wrap (BitVec.ofInt (IntKind.bits .u64) ((IntKind.u64.wrap ((IntKind.u64.wrap ((IntKind.u64.wrap (s_.seed_ * 6364136223846793005)) + (IntKind.u64.wrap ((s_.code_.getD s_.at_.toNat default).toNat : Int)))) + 1442695040888963407)).fdiv (2 ^ (min 40 64))) &&& BitVec.ofInt (IntKind.bits .u64) 255).toNat)), (L00Src.mk s_.code_ (IntKind.i64.wrap (s_.at_ + 1)) (IntKind.u64.wrap ((IntKind.u64.wrap ((IntKind.u64.wrap (s_.seed_ * 6364136223846793005)) + (IntKind.u64.wrap ((s_.code_.getD s_.at_.toNat default).toNat : Int)))) + 1442695040888963407))))
  else
    if (decide ((IntKind.i64.wrap (s_.at_ + 1)) ≤ (s_.code_.length : Int))) then
      some (0, (L00Src.mk s_.code_ (IntKind.i64.wrap (s_.at_ + 1)) (IntKind.u64.wrap ((IntKind.u64.wrap ((IntKind.u64.wrap (s_.seed_ * 6364136223846793005)) + (IntKind.u64.wrap 0))) + 1442695040888963407))))
    else
      ck (shOk 40) <|
      some ((IntKind.i64.wrap (IntKind.u64.wrap (BitVec.ofInt (IntKind.bits .u64) ((IntKind.u64.wrap ((IntKind.u64.wrap ((IntKind.u64.wrap (s_.seed_ * 6364136223846793005)) + (IntKind.u64.wrap 0))) + 1442695040888963407)).fdiv (2 ^ (min 40 64))) &&& BitVec.ofInt (IntKind.bits .u64) 255).toNat)), (L00Src.mk s_.code_ (IntKind.i64.wrap (s_.at_ + 1)) (IntKind.u64.wrap ((IntKind.u64.wrap ((IntKind.u64.wrap (s_.seed_ * 6364136223846793005)) + (IntKind.u64.wrap 0))) + 1442695040888963407))))

/-- (*spec.l00Src).pick -/
noncomputable def spec_l00Src_pick (s_ : L00Src) (n : Int) : Option (Int × L00Src) :=
  if (decide (n ≤ 1)) then
    some (0, s_)
  else
    (spec_l00Src_next s_).bind fun y_2 =>
    if (decide (200 < n)) then
      (spec_l00Src_next y_2.2).bind fun y_4 =>
      ck (nz n) <|
      some (((IntKind.i64.wrap ((IntKind.i64.wrap (y_2.1 * 256)) + y_4.1)).tmod n), y_4.2)
    else
      ck (nz n) <|
      some ((y_2.1.tmod n), y_2.2)

/-- (*spec.l00Src).among -/
noncomputable def spec_l00Src_among (s_ : L00Src) (list : List Int) : Option (Int × L00Src) :=
  (spec_l00Src_pick s_ (list.length : Int)).bind fun y_1 =>
  ck (ixOk y_1.1 list.length) <|
  some ((list.getD y_1.1.toNat default), y_1.2)

/-- (*spec.l00Src).one -/
noncomputable def spec_l00Src_one (s_ : L00Src) (n : Int) : Option (Bool × L00Src) :=
  (spec_l00Src_pick s_ n).bind fun y_1 =>
  some ((y_1.1 == 0), y_1.2)

/-- (*spec.l00Src).text -/
noncomputable def spec_l00Src_text (s_ : L00Src) (list : List (List UInt8)) : Option ((List UInt8) × L00Src) :=
  (spec_l00Src_pick s_ (list.length : Int)).bind fun y_1 =>
  ck (ixOk y_1.1 list.length) <|
  some ((list.getD y_1.1.toNat default), y_1.2)

/-- spec.l18New -/
noncomputable def spec_l18New (s_ : L00Src) : Option (Rule × L00Src) :=
  (spec_l00Src_text s_ ([([99, 101, 112, 104, 101, 105, 100] : List UInt8), ([109, 105, 114, 97] : List UInt8), ([101, 99, 108, 105, 112, 115, 105, 110, 103] : List UInt8), ([114, 114, 45, 108, 121, 114, 97, 101] : List UInt8)] : List (List UInt8))).bind fun y_1 =>
  (spec_l00Src_pick y_1.2 4).bind fun y_2 =>
  (spec_l00Src_pick y_2.2 5).bind fun y_3 =>
  (spec_l00Src_pick y_3.2 4).bind fun y_4 =>
  (spec_l00Src_pick y_4.2 5).bind fun y_5 =>
  (spec_l00Src_pick y_5.2 4).bind fun y_6 =>
  some ((Rule.mk y_1.1 (IntKind.i64.wrap (500 * y_2.1)) (IntKind.i64.wrap ((IntKind.i64.wrap (500 * y_2.1)) + (IntKind.i64.wrap (500 * y_3.1)))) (IntKind.i64.wrap (10000 * y_4.1)) (IntKind.i64.wrap ((IntKind.i64.wrap (10000 * y_4.1)) + (IntKind.i64.wrap (10000 * y_5.1)))) y_6.1), y_6.2)

noncomputable def spec_l18Bent_l1  : (L00Src × (List Rule) × Int) → Option ((L00Src × (List Rule) × Int) ⊕ (L00Src × (List Rule)))
  | (s_, list, k) =>
    if (decide (0 < k)) then
      (spec_l18New s_).bind fun y_6 =>
      ck (appOk (list.length + ([y_6.1] : List Rule).length) 56) <|
      some (.inl (y_6.2, (list ++ ([y_6.1] : List Rule)), (IntKind.i64.wrap (k - 1))))
    else
      some (.inr (s_, list))

noncomputable def spec_l18Bent_l2  : (L00Src × (List Rule) × Int) → Option ((L00Src × (List Rule) × Int) ⊕ (L00Src × (List Rule)))
  | (s_, list, k) =>
    if (decide (0 < k)) then
      (spec_l18New s_).bind fun y_41 =>
      ck (appOk (list.length + ([y_41.1] : List Rule).length) 56) <|
      some (.inl (y_41.2, (list ++ ([y_41.1] : List Rule)), (IntKind.i64.wrap (k - 1))))
    else
      some (.inr (s_, list))

/-- spec.l18Bent -/
noncomputable def spec_l18Bent (s_ : L00Src) : Option ((List Rule) × L00Src) :=
  (spec_l00Src_pick s_ 7).bind fun y_1 =>
  (spec_l00Src_one y_1.2 24).bind fun y_2 =>
  if y_2.1 then
    (spec_l00Src_pick y_2.2 2).bind fun y_4 =>
    (whileE (spec_l18Bent_l1) (y_4.2, ([] : List Rule), (IntKind.i64.wrap (12 + y_4.1)))).bind fun y_8 =>
    (spec_l00Src_one y_8.1 4).bind fun y_9 =>
    if y_9.1 then
      ck (appOk (y_8.2.length + ([(Rule.mk ([114, 101, 115, 116] : List UInt8) 0 20000 0 1000000 0)] : List Rule).length) 56) <|
      if (((y_8.2 ++ ([(Rule.mk ([114, 101, 115, 116] : List UInt8) 0 20000 0 1000000 0)] : List Rule)).length : Int) == 0) then
        some ((y_8.2 ++ ([(Rule.mk ([114, 101, 115, 116] : List UInt8) 0 20000 0 1000000 0)] : List Rule)), y_9.2)
      else
        (spec_l00Src_pick y_9.2 ((y_8.2 ++ ([(Rule.mk ([114, 101, 115, 116] : List UInt8) 0 20000 0 1000000 0)] : List Rule)).length : Int)).bind fun y_13 =>
        ck (ixOk y_13.1 ((y_8.2 ++ ([(Rule.mk ([114, 101, 115, 116] : List UInt8) 0 20000 0 1000000 0)] : List Rule)).length)) <|
        (spec_l00Src_pick y_13.2 30).bind fun y_15 =>
        if (y_15.1 == 0) then
          (spec_l00Src_text y_15.2 ([([] : List UInt8), ([77, 105, 114, 97] : List UInt8), ([109] : List UInt8)] : List (List UInt8))).bind fun y_17 =>
          some (((y_8.2 ++ ([(Rule.mk ([114, 101, 115, 116] : List UInt8) 0 20000 0 1000000 0)] : List Rule)).set y_13.1.toNat (Rule.mk y_17.1 (((y_8.2 ++ ([(Rule.mk ([114, 101, 115, 116] : List UInt8) 0 20000 0 1000000 0)] : List Rule)).getD y_13.1.toNat default).FromAmp) (((y_8.2 ++ ([(Rule.mk ([114, 101, 115, 116] : List UInt8) 0 20000 0 1000000 0)] : List Rule)).getD y_13.1.toNat default).ToAmp) (((y_8.2 ++ ([(Rule.mk ([114, 101, 115, 116] : List UInt8) 0 20000 0 1000000 0)] : List Rule)).getD y_13.1.toNat default).FromPer) (((y_8.2 ++ ([(Rule.mk ([114, 101, 115, 116] : List UInt8) 0 20000 0 1000000 0)] : List Rule)).getD y_13.1.toNat default).ToPer) (((y_8.2 ++ ([(Rule.mk ([114, 101, 115, 116] : List UInt8) 0 20000 0 1000000 0)] : List Rule)).getD y_13.1.toNat default).Shape))), y_17.2)
        else
          if (y_15.1 == 1) then
            (spec_l00Src_among y_15.2 ([(-1), 0, ((y_8.2 ++ ([(Rule.mk ([114, 101, 115, 116] : List UInt8) 0 20000 0 1000000 0)] : List Rule)).getD y_13.1.toNat default).ToAmp, (IntKind.i64.wrap ((((y_8.2 ++ ([(Rule.mk ([114, 101, 115, 116] : List UInt8) 0 20000 0 1000000 0)] : List Rule)).getD y_13.1.toNat default).ToAmp) + 1))] : List Int)).bind fun y_19 =>
            some (((y_8.2 ++ ([(Rule.mk ([114, 101, 115, 116] : List UInt8) 0 20000 0 1000000 0)] : List Rule)).set y_13.1.toNat (Rule.mk (((y_8.2 ++ ([(Rule.mk ([114, 101, 115, 116] : List UInt8) 0 20000 0 1000000 0)] : List Rule)).getD y_13.1.toNat default).Class) y_19.1 (((y_8.2 ++ ([(Rule.mk ([114, 101, 115, 116] : List UInt8) 0 20000 0 1000000 0)] : List Rule)).getD y_13.1.toNat default).ToAmp) (((y_8.2 ++ ([(Rule.mk ([114, 101, 115, 116] : List UInt8) 0 20000 0 1000000 0)] : List Rule)).getD y_13.1.toNat default).FromPer) (((y_8.2 ++ ([(Rule.mk ([114, 101, 115, 116] : List UInt8) 0 20000 0 1000000 0)] : List Rule)).getD y_13.1.toNat default).ToPer) (((y_8.2 ++ ([(Rule.mk ([114, 101, 115, 116] : List UInt8) 0 20000 0 1000000 0)] : List Rule)).getD y_13.1.toNat default).Shape))), y_19.2)
          else
            if (y_15.1 == 2) then
              (spec_l00Src_among y_15.2 ([20000, 20001, (-9223372036854775808)] : List Int)).bind fun y_21 =>
              some (((y_8.2 ++ ([(Rule.mk ([114, 101, 115, 116] : List UInt8) 0 20000 0 1000000 0)] : List Rule)).set y_13.1.toNat (Rule.mk (((y_8.2 ++ ([(Rule.mk ([114, 101, 115, 116] : List UInt8) 0 20000 0 1000000 0)] : List Rule)).getD y_13.1.toNat default).Class) (((y_8.2 ++ ([(Rule.mk ([114, 101, 115, 116] : List UInt8) 0 20000 0 1000000 0)] : List Rule)).getD y_13.1.toNat default).FromAmp) y_21.1 (((y_8.2 ++ ([(Rule.mk ([114, 101, 115, 116] : List UInt8) 0 20000 0 1000000 0)] : List Rule)).getD y_13.1.toNat default).FromPer) (((y_8.2 ++ ([(Rule.mk ([114, 101, 115, 116] : List UInt8) 0 20000 0 1000000 0)] : List Rule)).getD y_13.1.toNat default).ToPer) (((y_8.2 ++ ([(Rule.mk ([114, 101, 115, 116] : List UInt8) 0 20000 0 1000000 0)] : List Rule)).getD y_13.1.toNat default).Shape))), y_21.2)
            else
              if (y_15.1 == 3) then
                (spec_l00Src_among y_15.2 ([1000000, 1000001, 9223372036854775807] : List Int)).bind fun y_23 =>
                some (((y_8.2 ++ ([(Rule.mk ([114, 101, 115, 116] : List UInt8) 0 20000 0 1000000 0)] : List Rule)).set y_13.1.toNat (Rule.mk (((y_8.2 ++ ([(Rule.mk ([114, 101, 115, 116] : List UInt8) 0 20000 0 1000000 0)] : List Rule)).getD y_13.1.toNat default).Class) (((y_8.2 ++ ([(Rule.mk ([114, 101, 115, 116] : List UInt8) 0 20000 0 1000000 0)] : List Rule)).getD y_13.1.toNat default).FromAmp) (((y_8.2 ++ ([(Rule.mk ([114, 101, 115, 116] : List UInt8) 0 20000 0 1000000 0)] : List Rule)).getD y_13.1.toNat default).ToAmp) (((y_8.2 ++ ([(Rule.mk ([114, 101, 115, 116] : List UInt8) 0 20000 0 1000000 0)] : List Rule)).getD y_13.1.toNat default).FromPer) y_23.1 (((y_8.2 ++ ([(Rule.mk ([114, 101, 115, 116] : List UInt8) 0 20000 0 1000000 0)] : List Rule)).getD y_13.1.toNat default).Shape))), y_23.2)
              else
                if (y_15.1 == 4) then
                  (spec_l00Src_among y_15.2 ([(-1), 0, 3, 4] : List Int)).bind fun y_25 =>
                  some (((y_8.2 ++ ([(Rule.mk ([114, 101, 115, 116] : List UInt8) 0 20000 0 1000000 0)] : List Rule)).set y_13.1.toNat (Rule.mk (((y_8.2 ++ ([(Rule.mk ([114, 101, 115, 116] : List UInt8) 0 20000 0 1000000 0)] : List Rule)).getD y_13.1.toNat default).Class) (((y_8.2 ++ ([(Rule.mk ([114, 101, 115, 116] : List UInt8) 0 20000 0 1000000 0)] : List Rule)).getD y_13.1.toNat default).FromAmp) (((y_8.2 ++ ([(Rule.mk ([114, 101, 115, 116] : List UInt8) 0 20000 0 1000000 0)] : List Rule)).getD y_13.1.toNat default).ToAmp) (((y_8.2 ++ ([(Rule.mk ([114, 101, 115, 116] : List UInt8) 0 20000 0 1000000 0)] : List Rule)).getD y_13.1.toNat default).FromPer) (((y_8.2 ++ ([(Rule.mk ([114, 101, 115, 116] : List UInt8) 0 20000 0 1000000 0)] : List Rule)).getD y_13.1.toNat default).ToPer) y_25.1)), y_25.2)
                else
                  some ((y_8.2 ++ ([(Rule.mk ([114, 101, 115, 116] : List UInt8) 0 20000 0 1000000 0)] : List Rule)), y_15.2)
    else
      if ((y_8.2.length : Int) == 0) then
        some (y_8.2, y_9.2)
      else
        (spec_l00Src_pick y_9.2 (y_8.2.length : Int)).bind fun y_27 =>
        ck (ixOk y_27.1 y_8.2.length) <|
        (spec_l00Src_pick y_27.2 30).bind fun y_29 =>
        if (y_29.1 == 0) then
          (spec_l00Src_text y_29.2 ([([] : List UInt8), ([77, 105, 114, 97] : List UInt8), ([109] : List UInt8)] : List (List UInt8))).bind fun y_31 =>
          some ((y_8.2.set y_27.1.toNat (Rule.mk y_31.1 ((y_8.2.getD y_27.1.toNat default).FromAmp) ((y_8.2.getD y_27.1.toNat default).ToAmp) ((y_8.2.getD y_27.1.toNat default).FromPer) ((y_8.2.getD y_27.1.toNat default).ToPer) ((y_8.2.getD y_27.1.toNat default).Shape))), y_31.2)
        else
          if (y_29.1 == 1) then
            (spec_l00Src_among y_29.2 ([(-1), 0, (y_8.2.getD y_27.1.toNat default).ToAmp, (IntKind.i64.wrap (((y_8.2.getD y_27.1.toNat default).ToAmp) + 1))] : List Int)).bind fun y_33 =>
            some ((y_8.2.set y_27.1.toNat (Rule.mk ((y_8.2.getD y_27.1.toNat default).Class) y_33.1 ((y_8.2.getD y_27.1.toNat default).ToAmp) ((y_8.2.getD y_27.1.toNat default).FromPer) ((y_8.2.getD y_27.1.toNat default).ToPer) ((y_8.2.getD y_27.1.toNat default).Shape))), y_33.2)
          else
            if (y_29.1 == 2) then
              (spec_l00Src_among y_29.2 ([20000, 20001, (-9223372036854775808)] : List Int)).bind fun y_35 =>
              some ((y_8.2.set y_27.1.toNat (Rule.mk ((y_8.2.getD y_27.1.toNat default).Class) ((y_8.2.getD y_27.1.toNat default).FromAmp) y_35.1 ((y_8.2.getD y_27.1.toNat default).FromPer) ((y_8.2.getD y_27.1.toNat default).ToPer) ((y_8.2.getD y_27.1.toNat default).Shape))), y_35.2)
            else
              if (y_29.1 == 3) then
                (spec_l00Src_among y_29.2 ([1000000, 1000001, 9223372036854775807] : List Int)).bind fun y_37 =>
                some ((y_8.2.set y_27.1.toNat (Rule.mk ((y_8.2.getD y_27.1.toNat default).Class) ((y_8.2.getD y_27.1.toNat default).FromAmp) ((y_8.2.getD y_27.1.toNat default).ToAmp) ((y_8.2.getD y_27.1.toNat default).FromPer) y_37.1 ((y_8.2.getD y_27.1.toNat default).Shape))), y_37.2)
              else
                if (y_29.1 == 4) then
                  (spec_l00Src_among y_29.2 ([(-1), 0, 3, 4] : List Int)).bind fun y_39 =>
                  some ((y_8.2.set y_27.1.toNat (Rule.mk ((y_8.2.getD y_27.1.toNat default).Class) ((y_8.2.getD y_27.1.toNat default).FromAmp) ((y_8.2.getD y_27.1.toNat default).ToAmp) ((y_8.2.getD y_27.1.toNat default).FromPer) ((y_8.2.getD y_27.1.toNat default).ToPer) y_39.1)), y_39.2)
                else
                  some (y_8.2, y_29.2)
  else
    (whileE (spec_l18Bent_l2) (y_2.2, ([] : List Rule), y_1.1)).bind fun y_43 =>
    (spec_l00Src_one y_43.1 4).bind fun y_44 =>
    if y_44.1 then
      ck (appOk (y_43.2.length + ([(Rule.mk ([114, 101, 115, 116] : List UInt8) 0 20000 0 1000000 0)] : List Rule).length) 56) <|
      if (((y_43.2 ++ ([(Rule.mk ([114, 101, 115, 116] : List UInt8) 0 20000 0 1000000 0)] : List Rule)).length : Int) == 0) then
        some ((y_43.2 ++ ([(Rule.mk ([114, 101, 115, 116] : List UInt8) 0 20000 0 1000000 0)] : List Rule)), y_44.2)
      else
        (spec_l00Src_pick y_44.2 ((y_43.2 ++ ([(Rule.mk ([114, 101, 115, 116] : List UInt8) 0 20000 0 1000000 0)] : List Rule)).length : Int)).bind fun y_48 =>
        ck (ixOk y_48.1 ((y_43.2 ++ ([(Rule.mk ([114, 101, 115, 116] : List UInt8) 0 20000 0 1000000 0)] : List Rule)).length)) <|
        (spec_l00Src_pick y_48.2 30).bind fun y_50 =>
        if (y_50.1 == 0) then
          (spec_l00Src_text y_50.2 ([([] : List UInt8), ([77, 105, 114, 97] : List UInt8), ([109] : List UInt8)] : List (List UInt8))).bind fun y_52 =>
          some (((y_43.2 ++ ([(Rule.mk ([114, 101, 115, 116] : List UInt8) 0 20000 0 1000000 0)] : List Rule)).set y_48.1.toNat (Rule.mk y_52.1 (((y_43.2 ++ ([(Rule.mk ([114, 101, 115, 116] : List UInt8) 0 20000 0 1000000 0)] : List Rule)).getD y_48.1.toNat default).FromAmp) (((y_43.2 ++ ([(Rule.mk ([114, 101, 115, 116] : List UInt8) 0 20000 0 1000000 0)] : List Rule)).getD y_48.1.toNat default).ToAmp) (((y_43.2 ++ ([(Rule.mk ([114, 101, 115, 116] : List UInt8) 0 20000 0 1000000 0)] : List Rule)).getD y_48.1.toNat default).FromPer) (((y_43.2 ++ ([(Rule.mk ([114, 101, 115, 116] : List UInt8) 0 20000 0 1000000 0)] : List Rule)).getD y_48.1.toNat default).ToPer) (((y_43.2 ++ ([(Rule.mk ([114, 101, 115, 116] : List UInt8) 0 20000 0 1000000 0)] : List Rule)).getD y_48.1.toNat default).Shape))), y_52.2)
        else
          if (y_50.1 == 1) then
            (spec_l00Src_among y_50.2 ([(-1), 0, ((y_43.2 ++ ([(Rule.mk ([114, 101, 115, 116] : List UInt8) 0 20000 0 1000000 0)] : List Rule)).getD y_48.1.toNat default).ToAmp, (IntKind.i64.wrap ((((y_43.2 ++ ([(Rule.mk ([114, 101, 115, 116] : List UInt8) 0 20000 0 1000000 0)] : List Rule)).getD y_48.1.toNat default).ToAmp) + 1))] : List Int)).bind fun y_54 =>
            some (((y_43.2 ++ ([(Rule.mk ([114, 101, 115, 116] : List UInt8) 0 20000 0 1000000 0)] : List Rule)).set y_48.1.toNat (Rule.mk (((y_43.2 ++ ([(Rule.mk ([114, 101, 115, 116] : List UInt8) 0 20000 0 1000000 0)] : List Rule)).getD y_48.1.toNat default).Class) y_54.1 (((y_43.2 ++ ([(Rule.mk ([114, 101, 115, 116] : List UInt8) 0 20000 0 1000000 0)] : List Rule)).getD y_48.1.toNat default).ToAmp) (((y_43.2 ++ ([(Rule.mk ([114, 101, 115, 116] : List UInt8) 0 20000 0 1000000 0)] : List Rule)).getD y_48.1.toNat default).FromPer) (((y_43.2 ++ ([(Rule.mk ([114, 101, 115, 116] : List UInt8) 0 20000 0 1000000 0)] : List Rule)).getD y_48.1.toNat default).ToPer) (((y_43.2 ++ ([(Rule.mk ([114, 101, 115, 116] : List UInt8) 0 20000 0 1000000 0)] : List Rule)).getD y_48.1.toNat default).Shape))), y_54.2)
          else
            if (y_50.1 == 2) then
              (spec_l00Src_among y_50.2 ([20000, 20001, (-9223372036854775808)] : List Int)).bind fun y_56 =>
              some (((y_43.2 ++ ([(Rule.mk ([114, 101, 115, 116] : List UInt8) 0 20000 0 1000000 0)] : List Rule)).set y_48.1.toNat (Rule.mk (((y_43.2 ++ ([(Rule.mk ([114, 101, 115, 116] : List UInt8) 0 20000 0 1000000 0)] : List Rule)).getD y_48.1.toNat default).Class) (((y_43.2 ++ ([(Rule.mk ([114, 101, 115, 116] : List UInt8) 0 20000 0 1000000 0)] : List Rule)).getD y_48.1.toNat default).FromAmp) y_56.1 (((y_43.2 ++ ([(Rule.mk ([114, 101, 115, 116] : List UInt8) 0 20000 0 1000000 0)] : List Rule)).getD y_48.1.toNat default).FromPer) (((y_43.2 ++ ([(Rule.mk ([114, 101, 115, 116] : List UInt8) 0 20000 0 1000000 0)] : List Rule)).getD y_48.1.toNat default).ToPer) (((y_43.2 ++ ([(Rule.mk ([114, 101, 115, 116] : List UInt8) 0 20000 0 1000000 0)] : List Rule)).getD y_48.1.toNat default).Shape))), y_56.2)
            else
              if (y_50.1 == 3) then
                (spec_l00Src_among y_50.2 ([1000000, 1000001, 9223372036854775807] : List Int)).bind fun y_58 =>
                some (((y_43.2 ++ ([(Rule.mk ([114, 101, 115, 116] : List UInt8) 0 20000 0 1000000 0)] : List Rule)).set y_48.1.toNat (Rule.mk (((y_43.2 ++ ([(Rule.mk ([114, 101, 115, 116] : List UInt8) 0 20000 0 1000000 0)] : List Rule)).getD y_48.1.toNat default).Class) (((y_43.2 ++ ([(Rule.mk ([114, 101, 115, 116] : List UInt8) 0 20000 0 1000000 0)] : List Rule)).getD y_48.1.toNat default).FromAmp) (((y_43.2 ++ ([(Rule.mk ([114, 101, 115, 116] : List UInt8) 0 20000 0 1000000 0)] : List Rule)).getD y_48.1.toNat default).ToAmp) (((y_43.2 ++ ([(Rule.mk ([114, 101, 115, 116] : List UInt8) 0 20000 0 1000000 0)] : List Rule)).getD y_48.1.toNat default).FromPer) y_58.1 (((y_43.2 ++ ([(Rule.mk ([114, 101, 115, 116] : List UInt8) 0 20000 0 1000000 0)] : List Rule)).getD y_48.1.toNat default).Shape))), y_58.2)
              else
                if (y_50.1 == 4) then
                  (spec_l00Src_among y_50.2 ([(-1), 0, 3, 4] : List Int)).bind fun y_60 =>
                  some (((y_43.2 ++ ([(Rule.mk ([114, 101, 115, 116] : List UInt8) 0 20000 0 1000000 0)] : List Rule)).set y_48.1.toNat (Rule.mk (((y_43.2 ++ ([(Rule.mk ([114, 101, 115, 116] : List UInt8) 0 20000 0 1000000 0)] : List Rule)).getD y_48.1.toNat default).Class) (((y_43.2 ++ ([(Rule.mk ([114, 101, 115, 116] : List UInt8) 0 20000 0 1000000 0)] : List Rule)).getD y_48.1.toNat default).FromAmp) (((y_43.2 ++ ([(Rule.mk ([114, 101, 115, 116] : List UInt8) 0 20000 0 1000000 0)] : List Rule)).getD y_48.1.toNat default).ToAmp) (((y_43.2 ++ ([(Rule.mk ([114, 101, 115, 116] : List UInt8) 0 20000 0 1000000 0)] : List Rule)).getD y_48.1.toNat default).FromPer) (((y_43.2 ++ ([(Rule.mk ([114, 101, 115, 116] : List UInt8) 0 20000 0 1000000 0)] : List Rule)).getD y_48.1.toNat default).ToPer) y_60.1)), y_60.2)
                else
                  some ((y_43.2 ++ ([(Rule.mk ([114, 101, 115, 116] : List UInt8) 0 20000 0 1000000 0)] : List Rule)), y_50.2)
    else
      if ((y_43.2.length : Int) == 0) then
        some (y_43.2, y_44.2)
      else
        (spec_l00Src_pick y_44.2 (y_43.2.length : Int)).bind fun y_62 =>
        ck (ixOk y_62.1 y_43.2.length) <|
        (spec_l00Src_pick y_62.2 30).bind fun y_64 =>
        if (y_64.1 == 0) then
          (spec_l00Src_text y_64.2 ([([] : List UInt8), ([77, 105, 114, 97] : List UInt8), ([109] : List UInt8)] : List (List UInt8))).bind fun y_66 =>
          some ((y_43.2.set y_62.1.toNat (Rule.mk y_66.1 ((y_43.2.getD y_62.1.toNat default).FromAmp) ((y_43.2.getD y_62.1.toNat default).ToAmp) ((y_43.2.getD y_62.1.toNat default).FromPer) ((y_43.2.getD y_62.1.toNat default).ToPer) ((y_43.2.getD y_62.1.toNat default).Shape))), y_66.2)
        else
          if (y_64.1 == 1) then
            (spec_l00Src_among y_64.2 ([(-1), 0, (y_43.2.getD y_62.1.toNat default).ToAmp, (IntKind.i64.wrap (((y_43.2.getD y_62.1.toNat default).ToAmp) + 1))] : List Int)).bind fun y_68 =>
            some ((y_43.2.set y_62.1.toNat (Rule.mk ((y_43.2.getD y_62.1.toNat default).Class) y_68.1 ((y_43.2.getD y_62.1.toNat default).ToAmp) ((y_43.2.getD y_62.1.toNat default).FromPer) ((y_43.2.getD y_62.1.toNat default).ToPer) ((y_43.2.getD y_62.1.toNat default).Shape))), y_68.2)
          else
            if (y_64.1 == 2) then
              (spec_l00Src_among y_64.2 ([20000, 20001, (-9223372036854775808)] : List Int)).bind fun y_70 =>
              some ((y_43.2.set y_62.1.toNat (Rule.mk ((y_43.2.getD y_62.1.toNat default).Class) ((y_43.2.getD y_62.1.toNat default).FromAmp) y_70.1 ((y_43.2.getD y_62.1.toNat default).FromPer) ((y_43.2.getD y_62.1.toNat default).ToPer) ((y_43.2.getD y_62.1.toNat default).Shape))), y_70.2)
            else
              if (y_64.1 == 3) then
                (spec_l00Src_among y_64.2 ([1000000, 1000001, 9223372036854775807] : List Int)).bind fun y_72 =>
                some ((y_43.2.set y_62.1.toNat (Rule.mk ((y_43.2.getD y_62.1.toNat default).Class) ((y_43.2.getD y_62.1.toNat default).FromAmp) ((y_43.2.getD y_62.1.toNat default).ToAmp) ((y_43.2.getD y_62.1.toNat default).FromPer) y_72.1 ((y_43.2.getD y_62.1.toNat default).Shape))), y_72.2)
              else
                if (y_64.1 == 4) then
                  (spec_l00Src_among y_64.2 ([(-1), 0, 3, 4] : List Int)).bind fun y_74 =>
                  some ((y_43.2.set y_62.1.toNat (Rule.mk ((y_43.2.getD y_62.1.toNat default).Class) ((y_43.2.getD y_62.1.toNat default).FromAmp) ((y_43.2.getD y_62.1.toNat default).ToAmp) ((y_43.2.getD y_62.1.toNat default).FromPer) ((y_43.2.getD y_62.1.toNat default).ToPer) y_74.1)), y_74.2)
                else
                  some (y_43.2, y_64.2)

/-- spec.l18Two -/
noncomputable def spec_l18Two (code : List UInt8) : Option ((List Rule) × Int × Int) :=
  (spec_l00From code).bind fun y_1 =>
  (spec_l18Bent y_1).bind fun y_2 =>
  (spec_l00Src_pick y_2.2 (IntKind.i64.wrap ((y_2.1.length : Int) + 1))).bind fun y_3 =>
  (spec_l00Src_pick y_3.2 16).bind fun y_4 =>
  ck (nz 15) <|
  (spec_l00Src_pick y_4.2 (IntKind.i64.wrap ((y_2.1.length : Int) + 1))).bind fun y_6 =>
  (spec_l00Src_pick y_6.2 16).bind fun y_7 =>
  some (y_2.1, (IntKind.i64.wrap (y_3.1 - (IntKind.i64.wrap (y_4.1.tdiv 15)))), (IntKind.i64.wrap (y_6.1 - (IntKind.i64.wrap (y_7.1.tdiv 15)))))

/-- spec.DrawFactsFor -/
noncomputable def spec_DrawFactsFor (code : List UInt8) : Option ((List Rule) × Int) :=
  (spec_l18Two code).bind fun y_1 =>
  some (y_1.1, y_1.2.1)

/-- impl.factsFor$1 -/
noncomputable def impl_factsFor_c1 (r : Rule) : Option (Int × Int) :=
  some (r.FromAmp, r.ToAmp)

/-- impl.corners$1 -/
noncomputable def impl_corners_c1 (n : Int) (t1 : Int) : Option Bool :=
  some (decide (n ≤ t1))

noncomputable def impl_chosen_int64__impl_corners_c1_l1 (c : Int) (t9 : List Int) (t10 : Int) : ((List Int) × Int) → Option (((List Int) × Int) ⊕ (List Int))
  | (out, t11) =>
    if (decide (t11 < t10)) then
      ck (ixOk t11 t9.length) <|
      (impl_corners_c1 (t9.getD t11.toNat default) c).bind fun y_3 =>
      if y_3 then
        ck (appOk (out.length + ([(t9.getD t11.toNat default)] : List Int).length) 8) <|
        some (.inl ((out ++ ([(t9.getD t11.toNat default)] : List Int)), (IntKind.i64.wrap (t11 + 1))))
      else
        some (.inl (out, (IntKind.i64.wrap (t11 + 1))))
    else
      some (.inr out)

/-- impl.chosen[int64] -/
noncomputable def impl_chosen_int64__impl_corners_c1 (list : List Int) (wanted_c0 : Int) : Option (List Int) :=
  (whileE (impl_chosen_int64__impl_corners_c1_l1 wanted_c0 list (list.length : Int)) (([] : List Int), 0)).bind fun y_6 =>
  some y_6



noncomputable def impl_corners__impl_factsFor_c1_l1 (most : Int) (t13 : List Rule) (t14 : Int) : ((List Int) × Int) → Option (((List Int) × Int) ⊕ (List Int))
  | (out, t15) =>
    if (decide (t15 < t14)) then
      ck (ixOk t15 t13.length) <|
      (impl_factsFor_c1 (t13.getD t15.toNat default)).bind fun y_3 =>
      ck (appOk (out.length + ([y_3.1, (IntKind.i64.wrap (y_3.2 + 1))] : List Int).length) 8) <|
      some (.inl ((out ++ ([y_3.1, (IntKind.i64.wrap (y_3.2 + 1))] : List Int)), (IntKind.i64.wrap (t15 + 1))))
    else
      some (.inr out)

/-- impl.corners -/
noncomputable def impl_corners__impl_factsFor_c1 (list : List Rule) (most : Int) : Option (List Int) :=
  (whileE (impl_corners__impl_factsFor_c1_l1 most list (list.length : Int)) (([0] : List Int), 0)).bind fun y_5 =>
  (impl_chosen_int64__impl_corners_c1 y_5 most).bind fun y_6 =>
  (hSortI y_6).bind fun y_7 =>
  (hCompactI y_7).bind fun y_8 =>
  some y_8

/-- impl.factsFor$2 -/
noncomputable def impl_factsFor_c2 (r : Rule) : Option (Int × Int) :=
  some (r.FromPer, r.ToPer)

noncomputable def impl_corners__impl_factsFor_c2_l1 (most : Int) (t13 : List Rule) (t14 : Int) : ((List Int) × Int) → Option (((List Int) × Int) ⊕ (List Int))
  | (out, t15) =>
    if (decide (t15 < t14)) then
      ck (ixOk t15 t13.length) <|
      (impl_factsFor_c2 (t13.getD t15.toNat default)).bind fun y_3 =>
      ck (appOk (out.length + ([y_3.1, (IntKind.i64.wrap (y_3.2 + 1))] : List Int).length) 8) <|
      some (.inl ((out ++ ([y_3.1, (IntKind.i64.wrap (y_3.2 + 1))] : List Int)), (IntKind.i64.wrap (t15 + 1))))
    else
      some (.inr out)

/-- impl.corners -/
noncomputable def impl_corners__impl_factsFor_c2 (list : List Rule) (most : Int) : Option (List Int) :=
  (whileE (impl_corners__impl_factsFor_c2_l1 most list (list.length : Int)) (([0] : List Int), 0)).bind fun y_5 =>
  (impl_chosen_int64__impl_corners_c1 y_5 most).bind fun y_6 =>
  (hSortI y_6).bind fun y_7 =>
  (hCompactI y_7).bind fun y_8 =>
  some y_8

/-- (impl.Rule).matches -/
noncomputable def impl_Rule_matches (r : Rule) (f : Facts) : Option Bool :=
  (impl_in f.Amp r.FromAmp r.ToAmp).bind fun y_1 =>
  ck (!y_1 || (impl_in f.Period r.FromPer r.ToPer).isSome) <|
  some ((y_1 && ((impl_in f.Period r.FromPer r.ToPer).getD default)) && ((r.Shape == 0) || (r.Shape == f.Shape)))

/-- impl.first$1 -/
noncomputable def impl_first_c1 (r : Rule) (t1 : Facts) : Option Bool :=
  (impl_Rule_matches r t1).bind fun y_1 =>
  some y_1

noncomputable def slices_IndexFunc_impl_Rule_impl_Rule__impl_first_c1_l1 (s_ : List Rule) (c : Facts) (t7 : Int) : Int → Option (Int ⊕ (Unit ⊕ Int))
  | t8 =>
    if (decide (t8 < t7)) then
      ck (ixOk t8 s_.length) <|
      (impl_first_c1 (s_.getD t8.toNat default) c).bind fun y_3 =>
      if y_3 then
        some (.inr (.inr t8))
      else
        some (.inl (IntKind.i64.wrap (t8 + 1)))
    else
      some (.inr (.inl ()))

/-- slices.IndexFunc[[]impl.Rule,impl.Rule] -/
noncomputable def slices_IndexFunc_impl_Rule_impl_Rule__impl_first_c1 (s_ : List Rule) (f_c0 : Facts) : Option Int :=
  (whileE (slices_IndexFunc_impl_Rule_impl_Rule__impl_first_c1_l1 s_ f_c0 (s_.length : Int)) 0).bind fun y_5 =>
  match y_5 with
  | .inl y_5a =>
    some (-1)
  | .inr y_5b =>
    some y_5b

/-- impl.first -/
noncomputable def impl_first (list : List Rule) (f : Facts) : Option Int :=
  (slices_IndexFunc_impl_Rule_impl_Rule__impl_first_c1 list f).bind fun y_1 =>
  some y_1

noncomputable def impl_factsFor_l3 (list : List Rule) (k : Int) (t4 : Facts) (periods : List Int) (amp : Int) (period : Int) (t18 : List Int) (t19 : Int) (t20 : Int) (t25 : Int) (t26 : Int) : Int → Option (Int ⊕ (Unit ⊕ (Facts × Bool)))
  | shape =>
    if (decide (shape ≤ 3)) then
      (impl_first list (Facts.mk amp period shape)).bind fun y_8 =>
      if (y_8 == k) then
        some (.inr (.inr ((Facts.mk amp period shape), true)))
      else
        some (.inl (IntKind.i64.wrap (shape + 1)))
    else
      some (.inr (.inl ()))

noncomputable def impl_factsFor_l2 (list : List Rule) (k : Int) (t4 : Facts) (periods : List Int) (amp : Int) (t18 : List Int) (t19 : Int) (t20 : Int) (t25 : Int) : Int → Option (Int ⊕ (Unit ⊕ (Facts × Bool)))
  | t26 =>
    if (decide (t26 < t25)) then
      ck (ixOk t26 periods.length) <|
      (whileE (impl_factsFor_l3 list k t4 periods amp (periods.getD t26.toNat default) t18 t19 t20 t25 t26) 1).bind fun y_10 =>
      match y_10 with
      | .inl y_10a =>
        some (.inl (IntKind.i64.wrap (t26 + 1)))
      | .inr y_10b =>
        some (.inr (.inr (y_10b.1, y_10b.2)))
    else
      some (.inr (.inl ()))

noncomputable def impl_factsFor_l1 (list : List Rule) (k : Int) (t4 : Facts) (periods : List Int) (t18 : List Int) (t19 : Int) : Int → Option (Int ⊕ (Unit ⊕ (Facts × Bool)))
  | t20 =>
    if (decide (t20 < t19)) then
      ck (ixOk t20 t18.length) <|
      (whileE (impl_factsFor_l2 list k t4 periods (t18.getD t20.toNat default) t18 t19 t20 (periods.length : Int)) 0).bind fun y_11 =>
      match y_11 with
      | .inl y_11a =>
        some (.inl (IntKind.i64.wrap (t20 + 1)))
      | .inr y_11b =>
        some (.inr (.inr (y_11b.1, y_11b.2)))
    else
      some (.inr (.inl ()))

/-- impl.factsFor -/
noncomputable def impl_factsFor (list : List Rule) (k : Int) : Option (Facts × Bool) :=
  (impl_corners__impl_factsFor_c1 list 20000).bind fun y_1 =>
  (impl_corners__impl_factsFor_c2 list 1000000).bind fun y_2 =>
  (whileE (impl_factsFor_l1 list k (Facts.mk 0 0 0) y_2 y_1 (y_1.length : Int)) 0).bind fun y_12 =>
  match y_12 with
  | .inl y_12a =>
    some ((Facts.mk 0 0 0), false)
  | .inr y_12b =>
    some (y_12b.1, y_12b.2)

/-- impl.found -/
noncomputable def impl_found (f : Facts) (ok : Bool) : Option (Facts × Int) :=
  if (!ok) then
    some ((Facts.mk 0 0 0), 3)
  else
    some (f, 0)

/-- impl.FactsFor -/
noncomputable def impl_FactsFor (list : List Rule) (k : Int) : Option (Facts × Int) :=
  (impl_ValidRules list).bind fun y_1 =>
  if (!y_1) then
    some ((Facts.mk 0 0 0), 1)
  else
    (impl_count_impl_Rule list).bind fun y_3 =>
    (impl_in k 0 (IntKind.i64.wrap (y_3 - 1))).bind fun y_4 =>
    if (!y_4) then
      some ((Facts.mk 0 0 0), 2)
    else
      (impl_factsFor list k).bind fun y_6 =>
      (impl_found y_6.1 y_6.2).bind fun y_7 =>
      some (y_7.1, y_7.2)

/-- spec.l00In -/
noncomputable def spec_l00In (n : Int) (low : Int) (high : Int) : Option Bool :=
  some ((decide (low ≤ n)) && (decide (n ≤ high)))

/-- spec.l01Small -/
noncomputable def spec_l01Small (c : UInt8) : Option Bool :=
  some ((decide (97 ≤ (c.toNat : Int))) && (decide ((c.toNat : Int) ≤ 122)))

/-- spec.l01Digit -/
noncomputable def spec_l01Digit (c : UInt8) : Option Bool :=
  some ((decide (48 ≤ (c.toNat : Int))) && (decide ((c.toNat : Int) ≤ 57)))

noncomputable def spec_IsName_l1 (s_ : List UInt8) : Int → Option (Int ⊕ (Unit ⊕ Bool))
  | i =>
    if (decide (i < (s_.length : Int))) then
      ck (ixOk i s_.length) <|
      (spec_l01Small (s_.getD i.toNat 0)).bind fun y_6 =>
      ck (!(!y_6) || (spec_l01Digit (s_.getD i.toNat 0)).isSome) <|
      if (((!y_6) && (!((spec_l01Digit (s_.getD i.toNat 0)).getD default))) && (!(((s_.getD i.toNat 0).toNat : Int) == 45))) then
        some (.inr (.inr false))
      else
        some (.inl (IntKind.i64.wrap (i + 1)))
    else
      some (.inr (.inl ()))

/-- spec.IsName -/
noncomputable def spec_IsName (s_ : List UInt8) : Option Bool :=
  ck (!(!((s_ == ([] : List UInt8)) || (decide (12 < (s_.length : Int))))) || ixOk 0 s_.length) <|
  ck (!(!((s_ == ([] : List UInt8)) || (decide (12 < (s_.length : Int))))) || (spec_l01Small (s_.getD 0 0)).isSome) <|
  if (((s_ == ([] : List UInt8)) || (decide (12 < (s_.length : Int)))) || (!((spec_l01Small (s_.getD 0 0)).getD default))) then
    some false
  else
    (whileE (spec_IsName_l1 s_) 0).bind fun y_9 =>
    match y_9 with
    | .inl y_9a =>
      some true
    | .inr y_9b =>
      some y_9b

/-- spec.l18Shape -/
noncomputable def spec_l18Shape (n : Int) : Option Bool :=
  (spec_l00In n 1 3).bind fun y_1 =>
  some y_1

/-- spec.l18One -/
noncomputable def spec_l18One (r : Rule) : Option Bool :=
  (spec_IsName r.Class).bind fun y_1 =>
  ck (!((!(!y_1)) && (!(r.Shape == 0))) || (spec_l18Shape r.Shape).isSome) <|
  if ((!y_1) || ((!(r.Shape == 0)) && (!((spec_l18Shape r.Shape).getD default)))) then
    some false
  else
    (spec_l00In r.FromAmp 0 20000).bind fun y_4 =>
    ck (!y_4 || (spec_l00In r.ToAmp r.FromAmp 20000).isSome) <|
    ck (!(y_4 && ((spec_l00In r.ToAmp r.FromAmp 20000).getD default)) || (spec_l00In r.FromPer 0 1000000).isSome) <|
    ck (!((y_4 && ((spec_l00In r.ToAmp r.FromAmp 20000).getD default)) && ((spec_l00In r.FromPer 0 1000000).getD default)) || (spec_l00In r.ToPer r.FromPer 1000000).isSome) <|
    some (((y_4 && ((spec_l00In r.ToAmp r.FromAmp 20000).getD default)) && ((spec_l00In r.FromPer 0 1000000).getD default)) && ((spec_l00In r.ToPer r.FromPer 1000000).getD default))

noncomputable def spec_l18Ok_l1 (list : List Rule) : Int → Option (Int ⊕ (Unit ⊕ Bool))
  | i =>
    if (decide (i < (list.length : Int))) then
      ck (ixOk i list.length) <|
      (spec_l18One (list.getD i.toNat default)).bind fun y_3 =>
      if (!y_3) then
        some (.inr (.inr false))
      else
        some (.inl (IntKind.i64.wrap (i + 1)))
    else
      some (.inr (.inl ()))

/-- spec.l18Ok -/
noncomputable def spec_l18Ok (list : List Rule) : Option Bool :=
  (whileE (spec_l18Ok_l1 list) 0).bind fun y_5 =>
  match y_5 with
  | .inl y_5a =>
    some (decide ((list.length : Int) ≤ 12))
  | .inr y_5b =>
    some y_5b

noncomputable def spec_l00Put_l1 (list : List Int) (n : Int) : ((List Int) × Bool × Int) → Option (((List Int) × Bool × Int) ⊕ ((List Int) × Bool))
  | (out, done, i) =>
    if (decide (i < (list.length : Int))) then
      ck (!(!done) || ixOk i list.length) <|
      if ((!done) && (decide (n ≤ (list.getD i.toNat default)))) then
        ck (ixOk i list.length) <|
        if (decide (n < (list.getD i.toNat default))) then
          ck (appOk (out.length + ([n] : List Int).length) 8) <|
          ck (appOk ((out ++ ([n] : List Int)).length + ([(list.getD i.toNat default)] : List Int).length) 8) <|
          some (.inl (((out ++ ([n] : List Int)) ++ ([(list.getD i.toNat default)] : List Int)), true, (IntKind.i64.wrap (i + 1))))
        else
          ck (appOk (out.length + ([(list.getD i.toNat default)] : List Int).length) 8) <|
          some (.inl ((out ++ ([(list.getD i.toNat default)] : List Int)), true, (IntKind.i64.wrap (i + 1))))
      else
        ck (ixOk i list.length) <|
        ck (appOk (out.length + ([(list.getD i.toNat default)] : List Int).length) 8) <|
        some (.inl ((out ++ ([(list.getD i.toNat default)] : List Int)), done, (IntKind.i64.wrap (i + 1))))
    else
      some (.inr (out, done))

/-- spec.l00Put -/
noncomputable def spec_l00Put (list : List Int) (n : Int) : Option (List Int) :=
  (whileE (spec_l00Put_l1 list n) (([] : List Int), false, 0)).bind fun y_11 =>
  if (!y_11.2) then
    ck (appOk (y_11.1.length + ([n] : List Int).length) 8) <|
    some (y_11.1 ++ ([n] : List Int))
  else
    some y_11.1

/-- spec.l18Facts -/
noncomputable def spec_l18Facts (f : Facts) : Option Bool :=
  (spec_l00In f.Amp 0 20000).bind fun y_1 =>
  ck (!y_1 || (spec_l00In f.Period 0 1000000).isSome) <|
  ck (!(y_1 && ((spec_l00In f.Period 0 1000000).getD default)) || (spec_l18Shape f.Shape).isSome) <|
  some ((y_1 && ((spec_l00In f.Period 0 1000000).getD default)) && ((spec_l18Shape f.Shape).getD default))

/-- spec.l18Match -/
noncomputable def spec_l18Match (r : Rule) (f : Facts) : Option Bool :=
  (spec_l00In f.Amp r.FromAmp r.ToAmp).bind fun y_1 =>
  ck (!y_1 || (spec_l00In f.Period r.FromPer r.ToPer).isSome) <|
  some ((y_1 && ((spec_l00In f.Period r.FromPer r.ToPer).getD default)) && ((r.Shape == 0) || (r.Shape == f.Shape)))

noncomputable def spec_l18First_l1 (list : List Rule) (f : Facts) : Int → Option (Int ⊕ (Unit ⊕ Int))
  | i =>
    if (decide (i < (list.length : Int))) then
      ck (ixOk i list.length) <|
      (spec_l18Match (list.getD i.toNat default) f).bind fun y_3 =>
      if y_3 then
        some (.inr (.inr i))
      else
        some (.inl (IntKind.i64.wrap (i + 1)))
    else
      some (.inr (.inl ()))

/-- spec.l18First -/
noncomputable def spec_l18First (list : List Rule) (f : Facts) : Option Int :=
  (whileE (spec_l18First_l1 list f) 0).bind fun y_5 =>
  match y_5 with
  | .inl y_5a =>
    some (-1)
  | .inr y_5b =>
    some y_5b

noncomputable def spec_l18Find_l1 (list : List Rule) (k : Int) (t4 : Facts) : ((List Int) × (List Int) × Int) → Option (((List Int) × (List Int) × Int) ⊕ ((List Int) × (List Int)))
  | (amps, pers, i) =>
    if (decide (i < (list.length : Int))) then
      ck (ixOk i list.length) <|
      (spec_l00Put amps ((list.getD i.toNat default).FromAmp)).bind fun y_3 =>
      (spec_l00Put y_3 (IntKind.i64.wrap (((list.getD i.toNat default).ToAmp) + 1))).bind fun y_4 =>
      (spec_l00Put pers ((list.getD i.toNat default).FromPer)).bind fun y_5 =>
      (spec_l00Put y_5 (IntKind.i64.wrap (((list.getD i.toNat default).ToPer) + 1))).bind fun y_6 =>
      some (.inl (y_4, y_6, (IntKind.i64.wrap (i + 1))))
    else
      some (.inr (amps, pers))

noncomputable def spec_l18Find_l4 (list : List Rule) (k : Int) (t4 : Facts) (amps : List Int) (pers : List Int) (a : Int) (p : Int) : Int → Option (Int ⊕ (Unit ⊕ (Facts × Bool)))
  | shape =>
    if (decide (shape ≤ 3)) then
      ck (ixOk a amps.length) <|
      ck (ixOk p pers.length) <|
      (spec_l18Facts (Facts.mk (amps.getD a.toNat default) (pers.getD p.toNat default) shape)).bind fun y_13 =>
      ck (!y_13 || (spec_l18First list (Facts.mk (amps.getD a.toNat default) (pers.getD p.toNat default) shape)).isSome) <|
      if (y_13 && (((spec_l18First list (Facts.mk (amps.getD a.toNat default) (pers.getD p.toNat default) shape)).getD default) == k)) then
        some (.inr (.inr ((Facts.mk (amps.getD a.toNat default) (pers.getD p.toNat default) shape), true)))
      else
        some (.inl (IntKind.i64.wrap (shape + 1)))
    else
      some (.inr (.inl ()))

noncomputable def spec_l18Find_l3 (list : List Rule) (k : Int) (t4 : Facts) (amps : List Int) (pers : List Int) (a : Int) : Int → Option (Int ⊕ (Unit ⊕ (Facts × Bool)))
  | p =>
    if (decide (p < (pers.length : Int))) then
      (whileE (spec_l18Find_l4 list k t4 amps pers a p) 1).bind fun y_16 =>
      match y_16 with
      | .inl y_16a =>
        some (.inl (IntKind.i64.wrap (p + 1)))
      | .inr y_16b =>
        some (.inr (.inr (y_16b.1, y_16b.2)))
    else
      some (.inr (.inl ()))

noncomputable def spec_l18Find_l2 (list : List Rule) (k : Int) (t4 : Facts) (amps : List Int) (pers : List Int) : Int → Option (Int ⊕ (Unit ⊕ (Facts × Bool)))
  | a =>
    if (decide (a < (amps.length : Int))) then
      (whileE (spec_l18Find_l3 list k t4 amps pers a) 0).bind fun y_17 =>
      match y_17 with
      | .inl y_17a =>
        some (.inl (IntKind.i64.wrap (a + 1)))
      | .inr y_17b =>
        some (.inr (.inr (y_17b.1, y_17b.2)))
    else
      some (.inr (.inl ()))

/-- spec.l18Find -/
noncomputable def spec_l18Find (list : List Rule) (k : Int) : Option (Facts × Bool) :=
  (whileE (spec_l18Find_l1 list k (Facts.mk 0 0 0)) (([0] : List Int), ([0] : List Int), 0)).bind fun y_7 =>
  (whileE (spec_l18Find_l2 list k (Facts.mk 0 0 0) y_7.1 y_7.2) 0).bind fun y_18 =>
  match y_18 with
  | .inl y_18a =>
    some ((Facts.mk 0 0 0), false)
  | .inr y_18b =>
    some (y_18b.1, y_18b.2)

/-- spec.FactsFor -/
noncomputable def spec_FactsFor (list : List Rule) (k : Int) : Option (Facts × Int) :=
  (spec_l18Ok list).bind fun y_1 =>
  if (!y_1) then
    some ((Facts.mk 0 0 0), 1)
  else
    (spec_l00In k 0 (IntKind.i64.wrap ((list.length : Int) - 1))).bind fun y_3 =>
    if (!y_3) then
      some ((Facts.mk 0 0 0), 2)
    else
      (spec_l18Find list k).bind fun y_5 =>
      if (!y_5.2) then
        some ((Facts.mk 0 0 0), 3)
      else
        some (y_5.1, 0)

/-- impl.NeverReached$1 -/
noncomputable def impl_NeverReached_c1 (i : Int) (t1 : List Rule) : Option Bool :=
  (impl_factsFor t1 i).bind fun y_1 =>
  some (!y_1.2)

noncomputable def impl_indicesWhere__impl_NeverReached_c1_l1 (c : List Rule) (t8 : Int) : ((List Int) × Int) → Option (((List Int) × Int) ⊕ (List Int))
  | (out, t9) =>
    if (decide (t9 < t8)) then
      (impl_NeverReached_c1 t9 c).bind fun y_2 =>
      if y_2 then
        ck (appOk (out.length + ([t9] : List Int).length) 8) <|
        some (.inl ((out ++ ([t9] : List Int)), (IntKind.i64.wrap (t9 + 1))))
      else
        some (.inl (out, (IntKind.i64.wrap (t9 + 1))))
    else
      some (.inr out)

/-- impl.indicesWhere -/
noncomputable def impl_indicesWhere__impl_NeverReached_c1 (n : Int) (wanted_c0 : List Rule) : Option (List Int) :=
  (whileE (impl_indicesWhere__impl_NeverReached_c1_l1 wanted_c0 n) (([] : List Int), 0)).bind fun y_5 =>
  some y_5

/-- impl.NeverReached -/
noncomputable def impl_NeverReached (list : List Rule) : Option ((List Int) × Int) :=
  (impl_ValidRules list).bind fun y_1 =>
  if (!y_1) then
    some (([] : List Int), 1)
  else
    (impl_indicesWhere__impl_NeverReached_c1 (list.length : Int) list).bind fun y_3 =>
    some (y_3, 0)

noncomputable def spec_NeverReached_l1 (list : List Rule) : ((List Int) × Int) → Option (((List Int) × Int) ⊕ (List Int))
  | (out, k) =>
    if (decide (k < (list.length : Int))) then
      (spec_l18Find list k).bind fun y_4 =>
      if (!y_4.2) then
        ck (appOk (out.length + ([k] : List Int).length) 8) <|
        some (.inl ((out ++ ([k] : List Int)), (IntKind.i64.wrap (k + 1))))
      else
        some (.inl (out, (IntKind.i64.wrap (k + 1))))
    else
      some (.inr out)

/-- spec.NeverReached -/
noncomputable def spec_NeverReached (list : List Rule) : Option ((List Int) × Int) :=
  (spec_l18Ok list).bind fun y_1 =>
  if (!y_1) then
    some (([] : List Int), 1)
  else
    (whileE (spec_NeverReached_l1 list) (([] : List Int), 0)).bind fun y_7 =>
    some (y_7, 0)

/-- impl.UnclassedFacts -/
noncomputable def impl_UnclassedFacts (list : List Rule) : Option (Facts × Int) :=
  (impl_ValidRules list).bind fun y_1 =>
  if (!y_1) then
    some ((Facts.mk 0 0 0), 1)
  else
    (impl_factsFor list (-1)).bind fun y_3 =>
    (impl_found y_3.1 y_3.2).bind fun y_4 =>
    some (y_4.1, y_4.2)

/-- spec.UnclassedFacts -/
noncomputable def spec_UnclassedFacts (list : List Rule) : Option (Facts × Int) :=
  (spec_l18Ok list).bind fun y_1 =>
  if (!y_1) then
    some ((Facts.mk 0 0 0), 1)
  else
    (spec_l18Find list (-1)).bind fun y_3 =>
    if (!y_3.2) then
      some ((Facts.mk 0 0 0), 3)
    else
      some (y_3.1, 0)

/-- spec.DrawRulesOverlap -/
noncomputable def spec_DrawRulesOverlap (code : List UInt8) : Option ((List Rule) × Int × Int) :=
  (spec_l18Two code).bind fun y_1 =>
  some (y_1.1, y_1.2.1, y_1.2.2)

/-- spec.RulesOverlap -/
noncomputable def spec_RulesOverlap (list : List Rule) (a : Int) (b : Int) : Option (Bool × Int) :=
  (spec_l18Ok list).bind fun y_1 =>
  if (!y_1) then
    some (false, 1)
  else
    (spec_l00In a 0 (IntKind.i64.wrap ((list.length : Int) - 1))).bind fun y_3 =>
    ck (!(!(!y_3)) || (spec_l00In b 0 (IntKind.i64.wrap ((list.length : Int) - 1))).isSome) <|
    if ((!y_3) || (!((spec_l00In b 0 (IntKind.i64.wrap ((list.length : Int) - 1))).getD default))) then
      some (false, 2)
    else
      ck (ixOk a list.length) <|
      ck (ixOk b list.length) <|
      if ((((decide (((list.getD b.toNat default).ToAmp) < ((list.getD a.toNat default).FromAmp))) || (decide (((list.getD a.toNat default).ToAmp) < ((list.getD b.toNat default).FromAmp)))) || (decide (((list.getD b.toNat default).ToPer) < ((list.getD a.toNat default).FromPer)))) || (decide (((list.getD a.toNat default).ToPer) < ((list.getD b.toNat default).FromPer)))) then
        some (false, 0)
      else
        some ((((((list.getD a.toNat default).Shape) == 0) || (((list.getD b.toNat default).Shape) == 0)) || (((list.getD a.toNat default).Shape) == ((list.getD b.toNat default).Shape))), 0)

noncomputable def laws_f6ints_l1 (a : List Int) (b : List Int) : Int → Option (Int ⊕ (Unit ⊕ Bool))
  | i =>
    if (decide (i < (a.length : Int))) then
      ck (ixOk i a.length) <|
      ck (ixOk i b.length) <|
      if (!((a.getD i.toNat default) == (b.getD i.toNat default))) then
        some (.inr (.inr false))
      else
        some (.inl (IntKind.i64.wrap (i + 1)))
    else
      some (.inr (.inl ()))

/-- laws.f6ints -/
noncomputable def laws_f6ints (a : List Int) (b : List Int) : Option Bool :=
  if (!((a.length : Int) == (b.length : Int))) then
    some false
  else
    (whileE (laws_f6ints_l1 a b) 0).bind fun y_6 =>
    match y_6 with
    | .inl y_6a =>
      some true
    | .inr y_6b =>
      some y_6b

/-- impl.areFacts -/
noncomputable def impl_areFacts (f : Facts) : Option Bool :=
  (impl_in f.Amp 0 20000).bind fun y_1 =>
  ck (!y_1 || (impl_in f.Period 0 1000000).isSome) <|
  ck (!(y_1 && ((impl_in f.Period 0 1000000).getD default)) || (impl_in f.Shape 1 3).isSome) <|
  some ((y_1 && ((impl_in f.Period 0 1000000).getD default)) && ((impl_in f.Shape 1 3).getD default))

/-- impl.RulesFor$1 -/
noncomputable def impl_RulesFor_c1 (i : Int) (t1 : List Rule) (t2 : Facts) : Option Bool :=
  ck (ixOk i t1.length) <|
  (impl_Rule_matches (t1.getD i.toNat default) t2).bind fun y_2 =>
  some y_2

noncomputable def impl_indicesWhere__impl_RulesFor_c1_l1 (c : List Rule) (c2 : Facts) (t8 : Int) : ((List Int) × Int) → Option (((List Int) × Int) ⊕ (List Int))
  | (out, t9) =>
    if (decide (t9 < t8)) then
      (impl_RulesFor_c1 t9 c c2).bind fun y_2 =>
      if y_2 then
        ck (appOk (out.length + ([t9] : List Int).length) 8) <|
        some (.inl ((out ++ ([t9] : List Int)), (IntKind.i64.wrap (t9 + 1))))
      else
        some (.inl (out, (IntKind.i64.wrap (t9 + 1))))
    else
      some (.inr out)

/-- impl.indicesWhere -/
noncomputable def impl_indicesWhere__impl_RulesFor_c1 (n : Int) (wanted_c0 : List Rule) (wanted_c1 : Facts) : Option (List Int) :=
  (whileE (impl_indicesWhere__impl_RulesFor_c1_l1 wanted_c0 wanted_c1 n) (([] : List Int), 0)).bind fun y_5 =>
  some y_5

/-- impl.RulesFor -/
noncomputable def impl_RulesFor (list : List Rule) (f : Facts) : Option ((List Int) × Int) :=
  (impl_ValidRules list).bind fun y_1 =>
  if (!y_1) then
    some (([] : List Int), 1)
  else
    (impl_areFacts f).bind fun y_3 =>
    if (!y_3) then
      some (([] : List Int), 2)
    else
      (impl_indicesWhere__impl_RulesFor_c1 (list.length : Int) list f).bind fun y_5 =>
      some (y_5, 0)

/-- spec.l18DrawFacts -/
noncomputable def spec_l18DrawFacts (s_ : L00Src) : Option (Facts × L00Src) :=
  (spec_l00Src_pick s_ 14).bind fun y_1 =>
  (spec_l00Src_pick y_1.2 16).bind fun y_2 =>
  (spec_l00Src_pick y_2.2 3).bind fun y_3 =>
  (spec_l00Src_pick y_3.2 16).bind fun y_4 =>
  if (y_4.1 == 0) then
    (spec_l00Src_among y_4.2 ([(-1), 0, 20000, 20001] : List Int)).bind fun y_6 =>
    some ((Facts.mk y_6.1 (IntKind.i64.wrap (5000 * y_2.1)) (IntKind.i64.wrap (1 + y_3.1))), y_6.2)
  else
    if (y_4.1 == 1) then
      (spec_l00Src_among y_4.2 ([(-1), 0, 1000000, 1000001] : List Int)).bind fun y_8 =>
      some ((Facts.mk (IntKind.i64.wrap (250 * y_1.1)) y_8.1 (IntKind.i64.wrap (1 + y_3.1))), y_8.2)
    else
      if (y_4.1 == 2) then
        (spec_l00Src_among y_4.2 ([0, 1, 3, 4] : List Int)).bind fun y_10 =>
        some ((Facts.mk (IntKind.i64.wrap (250 * y_1.1)) (IntKind.i64.wrap (5000 * y_2.1)) y_10.1), y_10.2)
      else
        some ((Facts.mk (IntKind.i64.wrap (250 * y_1.1)) (IntKind.i64.wrap (5000 * y_2.1)) (IntKind.i64.wrap (1 + y_3.1))), y_4.2)

/-- spec.l18Ask -/
noncomputable def spec_l18Ask (code : List UInt8) : Option ((List Rule) × Facts) :=
  (spec_l00From code).bind fun y_1 =>
  (spec_l18Bent y_1).bind fun y_2 =>
  (spec_l18DrawFacts y_2.2).bind fun y_3 =>
  some (y_2.1, y_3.1)

/-- spec.DrawClassOf -/
noncomputable def spec_DrawClassOf (code : List UInt8) : Option ((List Rule) × Facts) :=
  (spec_l18Ask code).bind fun y_1 =>
  some (y_1.1, y_1.2)

/-- spec.l18Code -/
noncomputable def spec_l18Code (list : List Rule) (f : Facts) : Option Int :=
  (spec_l18Ok list).bind fun y_1 =>
  if (!y_1) then
    some 1
  else
    (spec_l18Facts f).bind fun y_3 =>
    if (!y_3) then
      some 2
    else
      some 0

noncomputable def spec_RulesFor_l1 (list : List Rule) (f : Facts) : ((List Int) × Int) → Option (((List Int) × Int) ⊕ (List Int))
  | (out, i) =>
    if (decide (i < (list.length : Int))) then
      ck (ixOk i list.length) <|
      (spec_l18Match (list.getD i.toNat default) f).bind fun y_5 =>
      if y_5 then
        ck (appOk (out.length + ([i] : List Int).length) 8) <|
        some (.inl ((out ++ ([i] : List Int)), (IntKind.i64.wrap (i + 1))))
      else
        some (.inl (out, (IntKind.i64.wrap (i + 1))))
    else
      some (.inr out)

/-- spec.RulesFor -/
noncomputable def spec_RulesFor (list : List Rule) (f : Facts) : Option ((List Int) × Int) :=
  (spec_l18Code list f).bind fun y_1 =>
  if (!(y_1 == 0)) then
    some (([] : List Int), y_1)
  else
    (whileE (spec_RulesFor_l1 list f) (([] : List Int), 0)).bind fun y_8 =>
    some (y_8, 0)

noncomputable def laws_FnReached_l1 (list : List Rule) (k : Int) (f : Facts) (bad : Int) (lost : List Int) (rules : List Rule) (hits : List Int) (gone : List Int) : Int → Option (Int ⊕ (Unit ⊕ Bool))
  | i =>
    if (decide (i < (gone.length : Int))) then
      ck (ixOk i gone.length) <|
      ck (ixOk 0 hits.length) <|
      if ((gone.getD i.toNat default) == (hits.getD 0 default)) then
        some (.inr (.inr false))
      else
        some (.inl (IntKind.i64.wrap (i + 1)))
    else
      some (.inr (.inl ()))

noncomputable def laws_FnReached_l2 (list : List Rule) (k : Int) (f : Facts) (bad : Int) (lost : List Int) (rules : List Rule) (hits : List Int) : Int → Option (Int ⊕ (Unit ⊕ Bool))
  | i =>
    if (decide (i < (hits.length : Int))) then
      ck (ixOk 0 hits.length) <|
      ck (ixOk i hits.length) <|
      (impl_RulesOverlap rules (hits.getD 0 default) (hits.getD i.toNat default)).bind fun y_31 =>
      if ((!(y_31.2 == 0)) || (!y_31.1)) then
        some (.inr (.inr false))
      else
        some (.inl (IntKind.i64.wrap (i + 1)))
    else
      some (.inr (.inl ()))

noncomputable def laws_FnReached_l3 (k : Int) (lost : List Int) : Int → Option (Int ⊕ (Unit ⊕ Bool))
  | i =>
    if (decide (i < (lost.length : Int))) then
      ck (ixOk i lost.length) <|
      if ((lost.getD i.toNat default) == k) then
        some (.inr (.inr true))
      else
        some (.inl (IntKind.i64.wrap (i + 1)))
    else
      some (.inr (.inl ()))

noncomputable def laws_FnReached_l4 (k : Int) (lost : List Int) : Int → Option (Int ⊕ (Unit ⊕ Bool))
  | i =>
    if (decide (i < (lost.length : Int))) then
      ck (ixOk i lost.length) <|
      if ((lost.getD i.toNat default) == k) then
        some (.inr (.inr true))
      else
        some (.inl (IntKind.i64.wrap (i + 1)))
    else
      some (.inr (.inl ()))

noncomputable def laws_FnReached_l5 (list : List Rule) (k : Int) (f : Facts) (bad : Int) (lost : List Int) (rules : List Rule) (hits : List Int) (gone : List Int) : Int → Option (Int ⊕ (Unit ⊕ Bool))
  | i =>
    if (decide (i < (gone.length : Int))) then
      ck (ixOk i gone.length) <|
      ck (ixOk 0 hits.length) <|
      if ((gone.getD i.toNat default) == (hits.getD 0 default)) then
        some (.inr (.inr false))
      else
        some (.inl (IntKind.i64.wrap (i + 1)))
    else
      some (.inr (.inl ()))

noncomputable def laws_FnReached_l6 (list : List Rule) (k : Int) (f : Facts) (bad : Int) (lost : List Int) (rules : List Rule) (hits : List Int) : Int → Option (Int ⊕ (Unit ⊕ Bool))
  | i =>
    if (decide (i < (hits.length : Int))) then
      ck (ixOk 0 hits.length) <|
      ck (ixOk i hits.length) <|
      (impl_RulesOverlap rules (hits.getD 0 default) (hits.getD i.toNat default)).bind fun y_63 =>
      if ((!(y_63.2 == 0)) || (!y_63.1)) then
        some (.inr (.inr false))
      else
        some (.inl (IntKind.i64.wrap (i + 1)))
    else
      some (.inr (.inl ()))

noncomputable def laws_FnReached_l7 (k : Int) (lost : List Int) : Int → Option (Int ⊕ (Unit ⊕ Bool))
  | i =>
    if (decide (i < (lost.length : Int))) then
      ck (ixOk i lost.length) <|
      if ((lost.getD i.toNat default) == k) then
        some (.inr (.inr true))
      else
        some (.inl (IntKind.i64.wrap (i + 1)))
    else
      some (.inr (.inl ()))

noncomputable def laws_FnReached_l8 (k : Int) (lost : List Int) : Int → Option (Int ⊕ (Unit ⊕ Bool))
  | i =>
    if (decide (i < (lost.length : Int))) then
      ck (ixOk i lost.length) <|
      if ((lost.getD i.toNat default) == k) then
        some (.inr (.inr true))
      else
        some (.inl (IntKind.i64.wrap (i + 1)))
    else
      some (.inr (.inl ()))

/-- laws.FnReached -/
noncomputable def laws_FnReached (code : List UInt8) : Option Bool :=
  (laws_f6big code).bind fun y_1 =>
  if y_1 then
    some true
  else
    (spec_DrawFactsFor code).bind fun y_3 =>
    (impl_FactsFor y_3.1 y_3.2).bind fun y_4 =>
    (spec_FactsFor y_3.1 y_3.2).bind fun y_5 =>
    (impl_NeverReached y_3.1).bind fun y_6 =>
    (spec_NeverReached y_3.1).bind fun y_7 =>
    (impl_UnclassedFacts y_3.1).bind fun y_8 =>
    (spec_UnclassedFacts y_3.1).bind fun y_9 =>
    (spec_DrawRulesOverlap code).bind fun y_10 =>
    (impl_RulesOverlap y_10.1 y_10.2.1 y_10.2.2).bind fun y_11 =>
    (spec_RulesOverlap y_10.1 y_10.2.1 y_10.2.2).bind fun y_12 =>
    ck (!(!(((!(y_4.2 == y_5.2)) || (!((y_4.1.Amp == y_5.1.Amp) && ((y_4.1.Period == y_5.1.Period) && (y_4.1.Shape == y_5.1.Shape))))) || (!(y_6.2 == y_7.2)))) || (laws_f6ints y_6.1 y_7.1).isSome) <|
    if ((((((((!(y_4.2 == y_5.2)) || (!((y_4.1.Amp == y_5.1.Amp) && ((y_4.1.Period == y_5.1.Period) && (y_4.1.Shape == y_5.1.Shape))))) || (!(y_6.2 == y_7.2))) || (!((laws_f6ints y_6.1 y_7.1).getD default))) || (!(y_8.2 == y_9.2))) || (!((y_8.1.Amp == y_9.1.Amp) && ((y_8.1.Period == y_9.1.Period) && (y_8.1.Shape == y_9.1.Shape))))) || (!(y_11.2 == y_12.2))) || (!(y_11.1 == y_12.1))) then
      some false
    else
      if (y_8.2 == 0) then
        (impl_RulesFor y_3.1 y_8.1).bind fun y_16 =>
        if ((!(y_16.2 == 0)) || (!((y_16.1.length : Int) == 0))) then
          some false
        else
          (spec_DrawClassOf code).bind fun y_18 =>
          (spec_RulesFor y_18.1 y_18.2).bind fun y_19 =>
          if ((y_19.2 == 0) && (decide (0 < (y_19.1.length : Int)))) then
            (impl_NeverReached y_18.1).bind fun y_21 =>
            if (!(y_21.2 == 0)) then
              some false
            else
              (whileE (laws_FnReached_l1 y_3.1 y_3.2 y_4.1 y_4.2 y_7.1 y_18.1 y_19.1 y_21.1) 0).bind fun y_27 =>
              match y_27 with
              | .inl y_27a =>
                (whileE (laws_FnReached_l2 y_3.1 y_3.2 y_4.1 y_4.2 y_7.1 y_18.1 y_19.1) 1).bind fun y_33 =>
                match y_33 with
                | .inl y_33a =>
                  if (y_4.2 == 0) then
                    (impl_RulesFor y_3.1 y_4.1).bind fun y_35 =>
                    ck (!((y_35.2 == 0) && (decide (0 < (y_35.1.length : Int)))) || ixOk 0 y_35.1.length) <|
                    some (((y_35.2 == 0) && (decide (0 < (y_35.1.length : Int)))) && ((y_35.1.getD 0 default) == y_3.2))
                  else
                    if (!(y_4.2 == 3)) then
                      some true
                    else
                      (whileE (laws_FnReached_l3 y_3.2 y_7.1) 0).bind fun y_41 =>
                      match y_41 with
                      | .inl y_41a =>
                        some false
                      | .inr y_41b =>
                        some y_41b
                | .inr y_33b =>
                  some y_33b
              | .inr y_27b =>
                some y_27b
          else
            if (y_4.2 == 0) then
              (impl_RulesFor y_3.1 y_4.1).bind fun y_43 =>
              ck (!((y_43.2 == 0) && (decide (0 < (y_43.1.length : Int)))) || ixOk 0 y_43.1.length) <|
              some (((y_43.2 == 0) && (decide (0 < (y_43.1.length : Int)))) && ((y_43.1.getD 0 default) == y_3.2))
            else
              if (!(y_4.2 == 3)) then
                some true
              else
                (whileE (laws_FnReached_l4 y_3.2 y_7.1) 0).bind fun y_49 =>
                match y_49 with
                | .inl y_49a =>
                  some false
                | .inr y_49b =>
                  some y_49b
      else
        (spec_DrawClassOf code).bind fun y_50 =>
        (spec_RulesFor y_50.1 y_50.2).bind fun y_51 =>
        if ((y_51.2 == 0) && (decide (0 < (y_51.1.length : Int)))) then
          (impl_NeverReached y_50.1).bind fun y_53 =>
          if (!(y_53.2 == 0)) then
            some false
          else
            (whileE (laws_FnReached_l5 y_3.1 y_3.2 y_4.1 y_4.2 y_7.1 y_50.1 y_51.1 y_53.1) 0).bind fun y_59 =>
            match y_59 with
            | .inl y_59a =>
              (whileE (laws_FnReached_l6 y_3.1 y_3.2 y_4.1 y_4.2 y_7.1 y_50.1 y_51.1) 1).bind fun y_65 =>
              match y_65 with
              | .inl y_65a =>
                if (y_4.2 == 0) then
                  (impl_RulesFor y_3.1 y_4.1).bind fun y_67 =>
                  ck (!((y_67.2 == 0) && (decide (0 < (y_67.1.length : Int)))) || ixOk 0 y_67.1.length) <|
                  some (((y_67.2 == 0) && (decide (0 < (y_67.1.length : Int)))) && ((y_67.1.getD 0 default) == y_3.2))
                else
                  if (!(y_4.2 == 3)) then
                    some true
                  else
                    (whileE (laws_FnReached_l7 y_3.2 y_7.1) 0).bind fun y_73 =>
                    match y_73 with
                    | .inl y_73a =>
                      some false
                    | .inr y_73b =>
                      some y_73b
              | .inr y_65b =>
                some y_65b
            | .inr y_59b =>
              some y_59b
        else
          if (y_4.2 == 0) then
            (impl_RulesFor y_3.1 y_4.1).bind fun y_75 =>
            ck (!((y_75.2 == 0) && (decide (0 < (y_75.1.length : Int)))) || ixOk 0 y_75.1.length) <|
            some (((y_75.2 == 0) && (decide (0 < (y_75.1.length : Int)))) && ((y_75.1.getD 0 default) == y_3.2))
          else
            if (!(y_4.2 == 3)) then
              some true
            else
              (whileE (laws_FnReached_l8 y_3.2 y_7.1) 0).bind fun y_81 =>
              match y_81 with
              | .inl y_81a =>
                some false
              | .inr y_81b =>
                some y_81b

end Go.Proofs.Ytlnpnpjkpkdoeaa
