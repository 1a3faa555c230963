/- Typed forms of the functions that R6 reaches. No condition. -/
import Derived.Test.YtgbibhhblimfiabEngSH
namespace Go.Proofs.Ytgbibhhblimfiab
open Go Go.RowKit
set_option linter.unusedVariables false

structure Estimate where
  Time : Int
  Star : List UInt8
  Observer : List UInt8
  Mag : Int
  Fainter : Bool
  deriving Inhabited, DecidableEq
def Estimate_av (x : Estimate) : AV := .agg ([.int .i64 x.Time, .str x.Star, .str x.Observer, .int .i64 x.Mag, .bool x.Fainter])

structure L00Src where
  code_ : List UInt8
  at_ : Int
  seed_ : Int
  deriving Inhabited, DecidableEq
def L00Src_av (x : L00Src) : AV := .agg ([.sl 1 (List.map byteAV x.code_), .int .i64 x.at_, .int .u64 x.seed_])

structure Point where
  Time : Int
  Mag : Int
  deriving Inhabited, DecidableEq
def Point_av (x : Point) : AV := .agg ([.int .i64 x.Time, .int .i64 x.Mag])

structure Fault where
  Index : Int
  Kind : Int
  deriving Inhabited, DecidableEq
def Fault_av (x : Fault) : AV := .agg ([.int .i64 x.Index, .int .i64 x.Kind])

attribute [go_sem] Estimate_av L00Src_av Point_av Fault_av

/-- laws.a2Long -/
noncomputable def laws_a2Long (code : List UInt8) (more : List UInt8) : Option Bool :=
  some ((decide (3000 < (code.length : Int))) || (decide (3000 < (more.length : Int))))

/-- spec.l00From -/
noncomputable def spec_l00From (code : List UInt8) : Option L00Src :=
  some (L00Src.mk code 0 0)

/-- (*spec.l00Src).next -/
noncomputable def spec_l00Src_next (s_ : L00Src) : Option (Int × L00Src) :=
  if (decide (s_.at_ < (s_.code_.length : Int))) then
    ck (ixOk s_.at_ s_.code_.length) <|
    if (decide ((IntKind.i64.wrap (s_.at_ + 1)) ≤ (s_.code_.length : Int))) then
      some (((s_.code_.getD s_.at_.toNat default).toNat : Int), (L00Src.mk s_.code_ (IntKind.i64.wrap (s_.at_ + 1)) (IntKind.u64.wrap ((IntKind.u64.wrap ((IntKind.u64.wrap (s_.seed_ * 6364136223846793005)) + (IntKind.u64.wrap ((s_.code_.getD s_.at_.toNat default).toNat : Int)))) + 1442695040888963407))))
    else
      ck (shOk 40) <|
      some ((IntKind.i64.wrap (IntKind.u64.wrap (BitVec.ofInt (IntKind.bits .u64) ((IntKind.u64.wrap ((IntKind.u64.wrap ((IntKind.u64.wrap (s_.seed_ * 6364136223846793005)) + (IntKind.u64.wrap ((s_.code_.getD s_.at_.toNat default).toNat : Int)))) + 1442695040888963407)).fdiv (2 ^ (min 40 64))) &&& BitVec.ofInt (IntKind.bits .u64) 255).toNat)), (L00Src.mk s_.code_ (IntKind.i64.wrap (s_.at_ + 1)) (IntKind.u64.wrap ((IntKind.u64.wrap ((IntKind.u64.wrap (s_.seed_ * 6364136223846793005)) + (IntKind.u64.wrap ((s_.code_.getD s_.at_.toNat default).toNat : Int)))) + 1442695040888963407))))
  else
    if (decide ((IntKind.i64.wrap (s_.at_ + 1)) ≤ (s_.code_.length : Int))) then
      some (0, (L00Src.mk s_.code_ (IntKind.i64.wrap (s_.at_ + 1)) (IntKind.u64.wrap ((IntKind.u64.wrap ((IntKind.u64.wrap (s_.seed_ * 6364136223846793005)) + (IntKind.u64.wrap 0))) + 1442695040888963407))))
    else
      ck (shOk 40) <|
      some ((IntKind.i64.wrap (IntKind.u64.wrap (BitVec.ofInt (IntKind.bits .u64) ((IntKind.u64.wrap ((IntKind.u64.wrap ((IntKind.u64.wrap (s_.seed_ * 6364136223846793005)) + (IntKind.u64.wrap 0))) + 1442695040888963407)).fdiv (2 ^ (min 40 64))) &&& BitVec.ofInt (IntKind.bits .u64) 255).toNat)), (L00Src.mk s_.code_ (IntKind.i64.wrap (s_.at_ + 1)) (IntKind.u64.wrap ((IntKind.u64.wrap ((IntKind.u64.wrap (s_.seed_ * 6364136223846793005)) + (IntKind.u64.wrap 0))) + 1442695040888963407))))

/-- (*spec.l00Src).pick -/
noncomputable def spec_l00Src_pick (s_ : L00Src) (n : Int) : Option (Int × L00Src) :=
  if (decide (n ≤ 1)) then
    some (0, s_)
  else
    (spec_l00Src_next s_).bind fun y_2 =>
    if (decide (200 < n)) then
      (spec_l00Src_next y_2.2).bind fun y_4 =>
      ck (nz n) <|
      some (((IntKind.i64.wrap ((IntKind.i64.wrap (y_2.1 * 256)) + y_4.1)).tmod n), y_4.2)
    else
      ck (nz n) <|
      some ((y_2.1.tmod n), y_2.2)

/-- (*spec.l00Src).one -/
noncomputable def spec_l00Src_one (s_ : L00Src) (n : Int) : Option (Bool × L00Src) :=
  (spec_l00Src_pick s_ n).bind fun y_1 =>
  some ((y_1.1 == 0), y_1.2)

/-- (*spec.l00Src).text -/
noncomputable def spec_l00Src_text (s_ : L00Src) (list : List (List UInt8)) : Option ((List UInt8) × L00Src) :=
  (spec_l00Src_pick s_ (list.length : Int)).bind fun y_1 =>
  ck (ixOk y_1.1 list.length) <|
  some ((list.getD y_1.1.toNat default), y_1.2)

/-- spec.l06New -/
noncomputable def spec_l06New (s_ : L00Src) : Option (Estimate × L00Src) :=
  (spec_l00Src_pick s_ 30).bind fun y_1 =>
  (spec_l00Src_one y_1.2 2).bind fun y_2 =>
  if y_2.1 then
    (spec_l00Src_pick y_2.2 3000).bind fun y_4 =>
    (spec_l00Src_text y_4.2 ([([109, 105, 114, 97] : List UInt8), ([114, 114, 45, 108, 121, 114] : List UInt8), ([115, 115, 45, 99, 121, 103] : List UInt8)] : List (List UInt8))).bind fun y_5 =>
    (spec_l00Src_text y_5.2 ([([97, 98] : List UInt8), ([99, 100] : List UInt8), ([101] : List UInt8)] : List (List UInt8))).bind fun y_6 =>
    (spec_l00Src_pick y_6.2 60).bind fun y_7 =>
    (spec_l00Src_one y_7.2 5).bind fun y_8 =>
    some ((Estimate.mk (IntKind.i64.wrap ((IntKind.i64.wrap (1000 * y_1.1)) + y_4.1)) y_5.1 y_6.1 (IntKind.i64.wrap (8000 + (IntKind.i64.wrap (50 * y_7.1)))) y_8.1), y_8.2)
  else
    (spec_l00Src_text y_2.2 ([([109, 105, 114, 97] : List UInt8), ([114, 114, 45, 108, 121, 114] : List UInt8), ([115, 115, 45, 99, 121, 103] : List UInt8)] : List (List UInt8))).bind fun y_9 =>
    (spec_l00Src_text y_9.2 ([([97, 98] : List UInt8), ([99, 100] : List UInt8), ([101] : List UInt8)] : List (List UInt8))).bind fun y_10 =>
    (spec_l00Src_pick y_10.2 60).bind fun y_11 =>
    (spec_l00Src_one y_11.2 5).bind fun y_12 =>
    some ((Estimate.mk (IntKind.i64.wrap (1000 * y_1.1)) y_9.1 y_10.1 (IntKind.i64.wrap (8000 + (IntKind.i64.wrap (50 * y_11.1)))) y_12.1), y_12.2)

/-- spec.l06Before -/
noncomputable def spec_l06Before (a : Estimate) (b : Estimate) : Option Bool :=
  if (!(a.Time == b.Time)) then
    some (decide (a.Time < b.Time))
  else
    if (!(a.Star == b.Star)) then
      some (Op.bytesLess a.Star b.Star)
    else
      some (Op.bytesLess a.Observer b.Observer)

noncomputable def spec_l06Find_l1 (list : List Estimate) (e_ : Estimate) : Int → Option (Int ⊕ (Unit ⊕ Int))
  | i =>
    if (decide (i < (list.length : Int))) then
      ck (ixOk i list.length) <|
      (spec_l06Before (list.getD i.toNat default) e_).bind fun y_3 =>
      ck (!(!y_3) || (spec_l06Before e_ (list.getD i.toNat default)).isSome) <|
      if ((!y_3) && (!((spec_l06Before e_ (list.getD i.toNat default)).getD default))) then
        some (.inr (.inr i))
      else
        some (.inl (IntKind.i64.wrap (i + 1)))
    else
      some (.inr (.inl ()))

/-- spec.l06Find -/
noncomputable def spec_l06Find (list : List Estimate) (e_ : Estimate) : Option Int :=
  (whileE (spec_l06Find_l1 list e_) 0).bind fun y_6 =>
  match y_6 with
  | .inl y_6a =>
    some (-1)
  | .inr y_6b =>
    some y_6b

noncomputable def spec_l06Put_l1 (list : List Estimate) (e_ : Estimate) : Int → Option (Int ⊕ Int)
  | k =>
    ck (!(decide (0 < k)) || ixOk (IntKind.i64.wrap (k - 1)) list.length) <|
    ck (!(decide (0 < k)) || (spec_l06Before e_ (list.getD (IntKind.i64.wrap (k - 1)).toNat default)).isSome) <|
    if ((decide (0 < k)) && ((spec_l06Before e_ (list.getD (IntKind.i64.wrap (k - 1)).toNat default)).getD default)) then
      some (.inl (IntKind.i64.wrap (k - 1)))
    else
      some (.inr k)

/-- spec.l06Put -/
noncomputable def spec_l06Put (list : List Estimate) (e_ : Estimate) : Option (List Estimate) :=
  (whileE (spec_l06Put_l1 list e_) (list.length : Int)).bind fun y_4 =>
  ck (cutOk 0 y_4 list.length) <|
  ck (appOk (([] : List Estimate).length + (cut list 0 y_4).length) 56) <|
  ck (appOk ((([] : List Estimate) ++ (cut list 0 y_4)).length + ([e_] : List Estimate).length) 56) <|
  ck (cutOk y_4 (list.length : Int) list.length) <|
  ck (appOk (((([] : List Estimate) ++ (cut list 0 y_4)) ++ ([e_] : List Estimate)).length + (cut list y_4 (list.length : Int)).length) 56) <|
  some (((([] : List Estimate) ++ (cut list 0 y_4)) ++ ([e_] : List Estimate)) ++ (cut list y_4 (list.length : Int)))

noncomputable def spec_l06Draw_l1  : (L00Src × (List Estimate) × Int) → Option ((L00Src × (List Estimate) × Int) ⊕ (L00Src × (List Estimate)))
  | (s_, out, k) =>
    if (decide (0 < k)) then
      (spec_l06New s_).bind fun y_3 =>
      (spec_l06Find out y_3.1).bind fun y_4 =>
      if (decide (y_4 < 0)) then
        (spec_l06Put out y_3.1).bind fun y_6 =>
        some (.inl (y_3.2, y_6, (IntKind.i64.wrap (k - 1))))
      else
        some (.inl (y_3.2, out, (IntKind.i64.wrap (k - 1))))
    else
      some (.inr (s_, out))

/-- spec.l06Draw -/
noncomputable def spec_l06Draw (s_ : L00Src) (most : Int) : Option ((List Estimate) × L00Src) :=
  (spec_l00Src_pick s_ (IntKind.i64.wrap (most + 1))).bind fun y_1 =>
  (whileE (spec_l06Draw_l1) (y_1.2, ([] : List Estimate), y_1.1)).bind fun y_7 =>
  some (y_7.2, y_7.1)

/-- spec.A2Estimates -/
noncomputable def spec_A2Estimates (code : List UInt8) : Option (List Estimate) :=
  (spec_l00From code).bind fun y_1 =>
  (spec_l06Draw y_1 12).bind fun y_2 =>
  some y_2.1

/-- impl.in -/
noncomputable def impl_in (n : Int) (low : Int) (high : Int) : Option Bool :=
  some ((decide (low ≤ n)) && (decide (n ≤ high)))

/-- impl.ValidTime -/
noncomputable def impl_ValidTime (t : Int) : Option Bool :=
  (impl_in t 0 10000000).bind fun y_1 =>
  some y_1

noncomputable def impl_IsName_l1 (s_ : List UInt8) (t15 : Int) : Int → Option (Int ⊕ (Unit ⊕ Bool))
  | t16 =>
    if (decide (t16 < t15)) then
      ck (ixOk t16 s_.length) <|
      if ((!((decide (97 ≤ ((s_.getD t16.toNat 0).toNat : Int))) && (decide (((s_.getD t16.toNat 0).toNat : Int) ≤ 122)))) && ((t16 == 0) || (!(((decide (48 ≤ ((s_.getD t16.toNat 0).toNat : Int))) && (decide (((s_.getD t16.toNat 0).toNat : Int) ≤ 57))) || (((s_.getD t16.toNat 0).toNat : Int) == 45))))) then
        some (.inr (.inr false))
      else
        some (.inl (IntKind.i64.wrap (t16 + 1)))
    else
      some (.inr (.inl ()))

/-- impl.IsName -/
noncomputable def impl_IsName (s_ : List UInt8) : Option Bool :=
  if ((decide ((s_.length : Int) < 1)) || (decide (12 < (s_.length : Int)))) then
    some false
  else
    (whileE (impl_IsName_l1 s_ (s_.length : Int)) 0).bind fun y_5 =>
    match y_5 with
    | .inl y_5a =>
      some true
    | .inr y_5b =>
      some y_5b

/-- impl.ValidMag -/
noncomputable def impl_ValidMag (m : Int) : Option Bool :=
  (impl_in m (-2000) 20000).bind fun y_1 =>
  some y_1

/-- impl.isEstimate -/
noncomputable def impl_isEstimate (e_ : Estimate) : Option Bool :=
  (impl_ValidTime e_.Time).bind fun y_1 =>
  ck (!y_1 || (impl_IsName e_.Star).isSome) <|
  ck (!(y_1 && ((impl_IsName e_.Star).getD default)) || (impl_IsName e_.Observer).isSome) <|
  ck (!((y_1 && ((impl_IsName e_.Star).getD default)) && ((impl_IsName e_.Observer).getD default)) || (impl_ValidMag e_.Mag).isSome) <|
  some (((y_1 && ((impl_IsName e_.Star).getD default)) && ((impl_IsName e_.Observer).getD default)) && ((impl_ValidMag e_.Mag).getD default))

/-- cmp.isNaN[int64] -/
noncomputable def cmp_isNaN_int64 (x : Int) : Option Bool :=
  some (!(x == x))

/-- cmp.Compare[int64] -/
noncomputable def cmp_Compare_int64 (x : Int) (y : Int) : Option Int :=
  (cmp_isNaN_int64 x).bind fun y_1 =>
  (cmp_isNaN_int64 y).bind fun y_2 =>
  if y_1 then
    if y_2 then
      some 0
    else
      some (-1)
  else
    if y_2 then
      some 1
    else
      if (decide (x < y)) then
        some (-1)
      else
        if (decide (y < x)) then
          some 1
        else
          some 0


/-- internal/bytealg.CompareString -/
noncomputable def internal_bytealg_CompareString (a : List UInt8) (b : List UInt8) : Option Int :=
  (hCmp a b).bind fun y_1 =>
  some y_1

/-- strings.Compare -/
noncomputable def strings_Compare (a : List UInt8) (b : List UInt8) : Option Int :=
  (internal_bytealg_CompareString a b).bind fun y_1 =>
  some y_1

noncomputable def cmp_Or_int_l1 (zero : Int) (t6 : List Int) (t7 : Int) : Int → Option (Int ⊕ (Unit ⊕ Int))
  | t8 =>
    if (decide (t8 < t7)) then
      ck (ixOk t8 t6.length) <|
      if (!((t6.getD t8.toNat default) == zero)) then
        some (.inr (.inr (t6.getD t8.toNat default)))
      else
        some (.inl (IntKind.i64.wrap (t8 + 1)))
    else
      some (.inr (.inl ()))

/-- cmp.Or[int] -/
noncomputable def cmp_Or_int (vals : List Int) : Option Int :=
  (whileE (cmp_Or_int_l1 0 vals (vals.length : Int)) 0).bind fun y_4 =>
  match y_4 with
  | .inl y_4a =>
    some 0
  | .inr y_4b =>
    some y_4b

/-- impl.compareEstimates -/
noncomputable def impl_compareEstimates (a : Estimate) (b : Estimate) : Option Int :=
  (cmp_Compare_int64 a.Time b.Time).bind fun y_1 =>
  (strings_Compare a.Star b.Star).bind fun y_2 =>
  (strings_Compare a.Observer b.Observer).bind fun y_3 =>
  (cmp_Or_int ([y_1, y_2, y_3] : List Int)).bind fun y_4 =>
  some y_4

noncomputable def impl_ValidEstimates_l1 (list : List Estimate) (t8 : List Estimate) (t9 : Int) : Int → Option (Int ⊕ (Unit ⊕ Bool))
  | t10 =>
    if (decide (t10 < t9)) then
      ck (ixOk t10 t8.length) <|
      (impl_isEstimate (t8.getD t10.toNat default)).bind fun y_4 =>
      ck (!((!(!y_4)) && (decide (0 < t10))) || ixOk (IntKind.i64.wrap (t10 - 1)) list.length) <|
      ck (!((!(!y_4)) && (decide (0 < t10))) || (impl_compareEstimates (list.getD (IntKind.i64.wrap (t10 - 1)).toNat default) (t8.getD t10.toNat default)).isSome) <|
      if ((!y_4) || ((decide (0 < t10)) && (decide (0 ≤ ((impl_compareEstimates (list.getD (IntKind.i64.wrap (t10 - 1)).toNat default) (t8.getD t10.toNat default)).getD default))))) then
        some (.inr (.inr false))
      else
        some (.inl (IntKind.i64.wrap (t10 + 1)))
    else
      some (.inr (.inl ()))

/-- impl.ValidEstimates -/
noncomputable def impl_ValidEstimates (list : List Estimate) : Option Bool :=
  if (decide (100 < (list.length : Int))) then
    some false
  else
    (whileE (impl_ValidEstimates_l1 list list (list.length : Int)) 0).bind fun y_8 =>
    match y_8 with
    | .inl y_8a =>
      some true
    | .inr y_8b =>
      some y_8b

/-- impl.CurveOf$1 -/
noncomputable def impl_CurveOf_c1 (e_ : Estimate) (t1 : List UInt8) : Option Bool :=
  some ((e_.Star == t1) && (!e_.Fainter))

noncomputable def impl_chosen_impl_Estimate__impl_CurveOf_c1_l1 (c : List UInt8) (t9 : List Estimate) (t10 : Int) : ((List Estimate) × Int) → Option (((List Estimate) × Int) ⊕ (List Estimate))
  | (out, t11) =>
    if (decide (t11 < t10)) then
      ck (ixOk t11 t9.length) <|
      (impl_CurveOf_c1 (t9.getD t11.toNat default) c).bind fun y_3 =>
      if y_3 then
        ck (appOk (out.length + ([(t9.getD t11.toNat default)] : List Estimate).length) 56) <|
        some (.inl ((out ++ ([(t9.getD t11.toNat default)] : List Estimate)), (IntKind.i64.wrap (t11 + 1))))
      else
        some (.inl (out, (IntKind.i64.wrap (t11 + 1))))
    else
      some (.inr out)

/-- impl.chosen[impl.Estimate] -/
noncomputable def impl_chosen_impl_Estimate__impl_CurveOf_c1 (list : List Estimate) (wanted_c0 : List UInt8) : Option (List Estimate) :=
  (whileE (impl_chosen_impl_Estimate__impl_CurveOf_c1_l1 wanted_c0 list (list.length : Int)) (([] : List Estimate), 0)).bind fun y_6 =>
  some y_6

noncomputable def impl_sum_l1 (t6 : List Int) (t7 : Int) : (Int × Int) → Option ((Int × Int) ⊕ Int)
  | (n, t8) =>
    if (decide (t8 < t7)) then
      ck (ixOk t8 t6.length) <|
      some (.inl ((IntKind.i64.wrap (n + (t6.getD t8.toNat default))), (IntKind.i64.wrap (t8 + 1))))
    else
      some (.inr n)

/-- impl.sum -/
noncomputable def impl_sum (list : List Int) : Option Int :=
  (whileE (impl_sum_l1 list (list.length : Int)) (0, 0)).bind fun y_3 =>
  some y_3

/-- impl.count[int64] -/
noncomputable def impl_count_int64 (list : List Int) : Option Int :=
  some (list.length : Int)

/-- impl.floorDiv -/
noncomputable def impl_floorDiv (a : Int) (b : Int) : Option Int :=
  ck (nz b) <|
  if (decide ((a.tmod b) < 0)) then
    some (IntKind.i64.wrap ((IntKind.i64.wrap (a.tdiv b)) - 1))
  else
    some (IntKind.i64.wrap (a.tdiv b))

/-- impl.nearest -/
noncomputable def impl_nearest (num : Int) (den : Int) : Option Int :=
  (impl_floorDiv num den).bind fun y_1 =>
  if (decide ((IntKind.i64.wrap (den - (IntKind.i64.wrap (num - (IntKind.i64.wrap (y_1 * den)))))) ≤ (IntKind.i64.wrap (num - (IntKind.i64.wrap (y_1 * den)))))) then
    some (IntKind.i64.wrap (y_1 + 1))
  else
    some y_1

/-- impl.mean -/
noncomputable def impl_mean (list : List Int) : Option Int :=
  (impl_sum list).bind fun y_1 =>
  (impl_count_int64 list).bind fun y_2 =>
  (impl_nearest y_1 y_2).bind fun y_3 =>
  some y_3

noncomputable def impl_CurveOf_l2 (seen : List Estimate) (out : List Point) (time : Int) : (Int × (List Int)) → Option ((Int × (List Int)) ⊕ (Int × (List Int)))
  | (i, mags) =>
    ck (!(decide (i < (seen.length : Int))) || ixOk i seen.length) <|
    if ((decide (i < (seen.length : Int))) && (((seen.getD i.toNat default).Time) == time)) then
      ck (ixOk i seen.length) <|
      ck (appOk (mags.length + ([(seen.getD i.toNat default).Mag] : List Int).length) 8) <|
      some (.inl ((IntKind.i64.wrap (i + 1)), (mags ++ ([(seen.getD i.toNat default).Mag] : List Int))))
    else
      some (.inr (i, mags))

noncomputable def impl_CurveOf_l1 (seen : List Estimate) : ((List Point) × Int) → Option (((List Point) × Int) ⊕ (List Point))
  | (out, i) =>
    if (decide (i < (seen.length : Int))) then
      ck (ixOk i seen.length) <|
      (whileE (impl_CurveOf_l2 seen out ((seen.getD i.toNat default).Time)) (i, ([] : List Int))).bind fun y_12 =>
      (impl_mean y_12.2).bind fun y_13 =>
      ck (appOk (out.length + ([(Point.mk ((seen.getD i.toNat default).Time) y_13)] : List Point).length) 16) <|
      some (.inl ((out ++ ([(Point.mk ((seen.getD i.toNat default).Time) y_13)] : List Point)), y_12.1))
    else
      some (.inr out)

/-- impl.CurveOf -/
noncomputable def impl_CurveOf (list : List Estimate) (star : List UInt8) : Option ((List Point) × Int) :=
  (impl_ValidEstimates list).bind fun y_1 =>
  if (!y_1) then
    some (([] : List Point), 1)
  else
    (impl_IsName star).bind fun y_3 =>
    if (!y_3) then
      some (([] : List Point), 2)
    else
      (impl_chosen_impl_Estimate__impl_CurveOf_c1 list star).bind fun y_5 =>
      (whileE (impl_CurveOf_l1 y_5) (([] : List Point), 0)).bind fun y_15 =>
      some (y_15, 0)

/-- spec.l00In -/
noncomputable def spec_l00In (n : Int) (low : Int) (high : Int) : Option Bool :=
  some ((decide (low ≤ n)) && (decide (n ≤ high)))

/-- spec.l06Time -/
noncomputable def spec_l06Time (n : Int) : Option Bool :=
  (spec_l00In n 0 10000000).bind fun y_1 =>
  some y_1

/-- spec.l02Mag -/
noncomputable def spec_l02Mag (m : Int) : Option Bool :=
  (spec_l00In m (-2000) 20000).bind fun y_1 =>
  some y_1

noncomputable def spec_l08Ok_l1 (curve : List Point) : Int → Option (Int ⊕ (Unit ⊕ Bool))
  | i =>
    if (decide (i < (curve.length : Int))) then
      ck (ixOk i curve.length) <|
      (spec_l06Time ((curve.getD i.toNat default).Time)).bind fun y_3 =>
      ck (!(!(!y_3)) || (spec_l02Mag ((curve.getD i.toNat default).Mag)).isSome) <|
      ck (!((!((!y_3) || (!((spec_l02Mag ((curve.getD i.toNat default).Mag)).getD default)))) && (decide (0 < i))) || ixOk (IntKind.i64.wrap (i - 1)) curve.length) <|
      if (((!y_3) || (!((spec_l02Mag ((curve.getD i.toNat default).Mag)).getD default))) || ((decide (0 < i)) && (decide (((curve.getD i.toNat default).Time) ≤ ((curve.getD (IntKind.i64.wrap (i - 1)).toNat default).Time))))) then
        some (.inr (.inr false))
      else
        some (.inl (IntKind.i64.wrap (i + 1)))
    else
      some (.inr (.inl ()))

/-- spec.l08Ok -/
noncomputable def spec_l08Ok (curve : List Point) : Option Bool :=
  (whileE (spec_l08Ok_l1 curve) 0).bind fun y_7 =>
  match y_7 with
  | .inl y_7a =>
    some (decide ((curve.length : Int) ≤ 100))
  | .inr y_7b =>
    some y_7b

/-- spec.ValidCurve -/
noncomputable def spec_ValidCurve (curve : List Point) : Option Bool :=
  (spec_l08Ok curve).bind fun y_1 =>
  some y_1

noncomputable def laws_FnCurves_l2 (list : List Estimate) (curve : List Point) (i : Int) : Int → Option (Int ⊕ Int)
  | at_ =>
    ck (!(decide (at_ < (curve.length : Int))) || ixOk at_ curve.length) <|
    ck (!(decide (at_ < (curve.length : Int))) || ixOk i list.length) <|
    if ((decide (at_ < (curve.length : Int))) && (decide (((curve.getD at_.toNat default).Time) < ((list.getD i.toNat default).Time)))) then
      some (.inl (IntKind.i64.wrap (at_ + 1)))
    else
      some (.inr at_)

noncomputable def laws_FnCurves_l1 (list : List Estimate) (curve : List Point) : (Int × Int) → Option ((Int × Int) ⊕ (Unit ⊕ Bool))
  | (at_, i) =>
    if (decide (i < (list.length : Int))) then
      ck (ixOk i list.length) <|
      if ((!(((list.getD i.toNat default).Star) == ([109, 105, 114, 97] : List UInt8))) || ((list.getD i.toNat default).Fainter)) then
        some (.inl (at_, (IntKind.i64.wrap (i + 1))))
      else
        (whileE (laws_FnCurves_l2 list curve i) at_).bind fun y_13 =>
        ck (!(!(decide ((curve.length : Int) ≤ y_13))) || ixOk y_13 curve.length) <|
        if ((decide ((curve.length : Int) ≤ y_13)) || (!(((curve.getD y_13.toNat default).Time) == ((list.getD i.toNat default).Time)))) then
          some (.inr (.inr false))
        else
          some (.inl (y_13, (IntKind.i64.wrap (i + 1))))
    else
      some (.inr (.inl ()))

/-- laws.FnCurves -/
noncomputable def laws_FnCurves (code : List UInt8) : Option Bool :=
  (laws_a2Long code ([] : List UInt8)).bind fun y_1 =>
  if y_1 then
    some true
  else
    (spec_A2Estimates code).bind fun y_3 =>
    (impl_CurveOf y_3 ([109, 105, 114, 97] : List UInt8)).bind fun y_4 =>
    ck (!(!(!(y_4.2 == 0))) || (spec_ValidCurve y_4.1).isSome) <|
    if ((!(y_4.2 == 0)) || (!((spec_ValidCurve y_4.1).getD default))) then
      some false
    else
      (whileE (laws_FnCurves_l1 y_3 y_4.1) (0, 0)).bind fun y_16 =>
      match y_16 with
      | .inl y_16a =>
        some (decide ((y_4.1.length : Int) ≤ (y_3.length : Int)))
      | .inr y_16b =>
        some y_16b

/-- laws.szEstimate -/
noncomputable def laws_szEstimate (a : Estimate) (left_ : Int) : Option Int :=
  if (decide ((IntKind.i64.wrap (left_ - (a.Star.length : Int))) < 0)) then
    some (-1)
  else
    if (decide ((IntKind.i64.wrap ((IntKind.i64.wrap (left_ - (a.Star.length : Int))) - (a.Observer.length : Int))) < 0)) then
      some (-1)
    else
      some (IntKind.i64.wrap ((IntKind.i64.wrap (left_ - (a.Star.length : Int))) - (a.Observer.length : Int)))

noncomputable def laws_szEstimateS_l1 (a : List Estimate) : (Int × Int) → Option ((Int × Int) ⊕ (Int ⊕ Int))
  | (left_, i) =>
    if (decide (i < (a.length : Int))) then
      ck (ixOk i a.length) <|
      (laws_szEstimate (a.getD i.toNat default) left_).bind fun y_4 =>
      if (decide (y_4 < 0)) then
        some (.inr (.inr (-1)))
      else
        some (.inl (y_4, (IntKind.i64.wrap (i + 1))))
    else
      some (.inr (.inl left_))

/-- laws.szEstimateS -/
noncomputable def laws_szEstimateS (a : List Estimate) (left_ : Int) : Option Int :=
  if (decide ((IntKind.i64.wrap (left_ - (a.length : Int))) < 0)) then
    some (-1)
  else
    (whileE (laws_szEstimateS_l1 a) ((IntKind.i64.wrap (left_ - (a.length : Int))), 0)).bind fun y_6 =>
    match y_6 with
    | .inl y_6a =>
      some y_6a
    | .inr y_6b =>
      some y_6b

/-- laws.szFaultS -/
noncomputable def laws_szFaultS (a : List Fault) (left_ : Int) : Option Int :=
  if (decide ((IntKind.i64.wrap (left_ - (a.length : Int))) < 0)) then
    some (-1)
  else
    some (IntKind.i64.wrap (left_ - (a.length : Int)))

/-- laws.toEstimate -/
noncomputable def laws_toEstimate (a : Estimate) : Option Estimate :=
  some a

noncomputable def laws_toEstimateS_l1 (a : List Estimate) : ((List Estimate) × Int) → Option (((List Estimate) × Int) ⊕ (List Estimate))
  | (out, i) =>
    if (decide (i < (a.length : Int))) then
      ck (ixOk i a.length) <|
      (laws_toEstimate (a.getD i.toNat default)).bind fun y_4 =>
      ck (ixOk i out.length) <|
      some (.inl ((out.set i.toNat y_4), (IntKind.i64.wrap (i + 1))))
    else
      some (.inr out)

/-- laws.toEstimateS -/
noncomputable def laws_toEstimateS (a : List Estimate) : Option (List Estimate) :=
  ck (mkOk (a.length : Int) 56) <|
  (whileE (laws_toEstimateS_l1 a) ((List.replicate (a.length : Int).toNat (Estimate.mk 0 [] [] 0 false)), 0)).bind fun y_6 =>
  some y_6

/-- laws.toFault -/
noncomputable def laws_toFault (a : Fault) : Option Fault :=
  some a

noncomputable def laws_toFaultS_l1 (a : List Fault) : ((List Fault) × Int) → Option (((List Fault) × Int) ⊕ (List Fault))
  | (out, i) =>
    if (decide (i < (a.length : Int))) then
      ck (ixOk i a.length) <|
      (laws_toFault (a.getD i.toNat default)).bind fun y_4 =>
      ck (ixOk i out.length) <|
      some (.inl ((out.set i.toNat y_4), (IntKind.i64.wrap (i + 1))))
    else
      some (.inr out)

/-- laws.toFaultS -/
noncomputable def laws_toFaultS (a : List Fault) : Option (List Fault) :=
  ck (mkOk (a.length : Int) 16) <|
  (whileE (laws_toFaultS_l1 a) ((List.replicate (a.length : Int).toNat (Fault.mk 0 0)), 0)).bind fun y_6 =>
  some y_6

/-- spec.l01Small -/
noncomputable def spec_l01Small (c : UInt8) : Option Bool :=
  some ((decide (97 ≤ (c.toNat : Int))) && (decide ((c.toNat : Int) ≤ 122)))

/-- spec.l01Digit -/
noncomputable def spec_l01Digit (c : UInt8) : Option Bool :=
  some ((decide (48 ≤ (c.toNat : Int))) && (decide ((c.toNat : Int) ≤ 57)))

noncomputable def spec_IsName_l1 (s_ : List UInt8) : Int → Option (Int ⊕ (Unit ⊕ Bool))
  | i =>
    if (decide (i < (s_.length : Int))) then
      ck (ixOk i s_.length) <|
      (spec_l01Small (s_.getD i.toNat 0)).bind fun y_6 =>
      ck (!(!y_6) || (spec_l01Digit (s_.getD i.toNat 0)).isSome) <|
      if (((!y_6) && (!((spec_l01Digit (s_.getD i.toNat 0)).getD default))) && (!(((s_.getD i.toNat 0).toNat : Int) == 45))) then
        some (.inr (.inr false))
      else
        some (.inl (IntKind.i64.wrap (i + 1)))
    else
      some (.inr (.inl ()))

/-- spec.IsName -/
noncomputable def spec_IsName (s_ : List UInt8) : Option Bool :=
  ck (!(!((s_ == ([] : List UInt8)) || (decide (12 < (s_.length : Int))))) || ixOk 0 s_.length) <|
  ck (!(!((s_ == ([] : List UInt8)) || (decide (12 < (s_.length : Int))))) || (spec_l01Small (s_.getD 0 0)).isSome) <|
  if (((s_ == ([] : List UInt8)) || (decide (12 < (s_.length : Int)))) || (!((spec_l01Small (s_.getD 0 0)).getD default))) then
    some false
  else
    (whileE (spec_IsName_l1 s_) 0).bind fun y_9 =>
    match y_9 with
    | .inl y_9a =>
      some true
    | .inr y_9b =>
      some y_9b

/-- spec.l06One -/
noncomputable def spec_l06One (e_ : Estimate) : Option Bool :=
  (spec_l06Time e_.Time).bind fun y_1 =>
  ck (!y_1 || (spec_IsName e_.Star).isSome) <|
  ck (!(y_1 && ((spec_IsName e_.Star).getD default)) || (spec_IsName e_.Observer).isSome) <|
  ck (!((y_1 && ((spec_IsName e_.Star).getD default)) && ((spec_IsName e_.Observer).getD default)) || (spec_l02Mag e_.Mag).isSome) <|
  some (((y_1 && ((spec_IsName e_.Star).getD default)) && ((spec_IsName e_.Observer).getD default)) && ((spec_l02Mag e_.Mag).getD default))

noncomputable def spec_l06Ok_l1 (list : List Estimate) : Int → Option (Int ⊕ (Unit ⊕ Bool))
  | i =>
    if (decide (i < (list.length : Int))) then
      ck (ixOk i list.length) <|
      (spec_l06One (list.getD i.toNat default)).bind fun y_3 =>
      ck (!((!(!y_3)) && (decide (0 < i))) || ixOk (IntKind.i64.wrap (i - 1)) list.length) <|
      ck (!((!(!y_3)) && (decide (0 < i))) || (spec_l06Before (list.getD (IntKind.i64.wrap (i - 1)).toNat default) (list.getD i.toNat default)).isSome) <|
      if ((!y_3) || ((decide (0 < i)) && (!((spec_l06Before (list.getD (IntKind.i64.wrap (i - 1)).toNat default) (list.getD i.toNat default)).getD default)))) then
        some (.inr (.inr false))
      else
        some (.inl (IntKind.i64.wrap (i + 1)))
    else
      some (.inr (.inl ()))

/-- spec.l06Ok -/
noncomputable def spec_l06Ok (list : List Estimate) : Option Bool :=
  (whileE (spec_l06Ok_l1 list) 0).bind fun y_7 =>
  match y_7 with
  | .inl y_7a =>
    some (decide ((list.length : Int) ≤ 100))
  | .inr y_7b =>
    some y_7b

/-- spec.l26Kind -/
noncomputable def spec_l26Kind (n : Int) : Option Bool :=
  (spec_l00In n 1 5).bind fun y_1 =>
  some y_1

noncomputable def spec_l26Faults_l1 (faults : List Fault) (count : Int) : Int → Option (Int ⊕ (Unit ⊕ Bool))
  | i =>
    if (decide (i < (faults.length : Int))) then
      ck (ixOk i faults.length) <|
      (spec_l00In ((faults.getD i.toNat default).Index) 0 (IntKind.i64.wrap (count - 1))).bind fun y_3 =>
      ck (!(!(!y_3)) || (spec_l26Kind ((faults.getD i.toNat default).Kind)).isSome) <|
      if ((!y_3) || (!((spec_l26Kind ((faults.getD i.toNat default).Kind)).getD default))) then
        some (.inr (.inr false))
      else
        ck (!(decide (0 < i)) || ixOk (IntKind.i64.wrap (i - 1)) faults.length) <|
        ck (!((decide (0 < i)) && !(decide (((faults.getD i.toNat default).Index) < ((faults.getD (IntKind.i64.wrap (i - 1)).toNat default).Index)))) || ixOk (IntKind.i64.wrap (i - 1)) faults.length) <|
        ck (!(((decide (0 < i)) && !(decide (((faults.getD i.toNat default).Index) < ((faults.getD (IntKind.i64.wrap (i - 1)).toNat default).Index)))) && (((faults.getD (IntKind.i64.wrap (i - 1)).toNat default).Index) == ((faults.getD i.toNat default).Index))) || ixOk (IntKind.i64.wrap (i - 1)) faults.length) <|
        if ((decide (0 < i)) && ((decide (((faults.getD i.toNat default).Index) < ((faults.getD (IntKind.i64.wrap (i - 1)).toNat default).Index))) || ((((faults.getD (IntKind.i64.wrap (i - 1)).toNat default).Index) == ((faults.getD i.toNat default).Index)) && (decide (((faults.getD i.toNat default).Kind) ≤ ((faults.getD (IntKind.i64.wrap (i - 1)).toNat default).Kind)))))) then
          some (.inr (.inr false))
        else
          some (.inl (IntKind.i64.wrap (i + 1)))
    else
      some (.inr (.inl ()))

/-- spec.l26Faults -/
noncomputable def spec_l26Faults (faults : List Fault) (count : Int) : Option Bool :=
  (whileE (spec_l26Faults_l1 faults count) 0).bind fun y_10 =>
  match y_10 with
  | .inl y_10a =>
    some true
  | .inr y_10b =>
    some y_10b

/-- spec.l26Code -/
noncomputable def spec_l26Code (list : List Estimate) (faults : List Fault) : Option Int :=
  (spec_l06Ok list).bind fun y_1 =>
  if (!y_1) then
    some 1
  else
    (spec_l26Faults faults (list.length : Int)).bind fun y_3 =>
    if (!y_3) then
      some 2
    else
      some 0

noncomputable def spec_l26Has_l1 (faults : List Fault) (index : Int) : Int → Option (Int ⊕ (Unit ⊕ Bool))
  | i =>
    if (decide (i < (faults.length : Int))) then
      ck (ixOk i faults.length) <|
      if (((faults.getD i.toNat default).Index) == index) then
        some (.inr (.inr true))
      else
        some (.inl (IntKind.i64.wrap (i + 1)))
    else
      some (.inr (.inl ()))

/-- spec.l26Has -/
noncomputable def spec_l26Has (faults : List Fault) (index : Int) : Option Bool :=
  (whileE (spec_l26Has_l1 faults index) 0).bind fun y_4 =>
  match y_4 with
  | .inl y_4a =>
    some false
  | .inr y_4b =>
    some y_4b

noncomputable def spec_CleanEstimates_l1 (list : List Estimate) (faults : List Fault) : ((List Estimate) × Int) → Option (((List Estimate) × Int) ⊕ (List Estimate))
  | (out, i) =>
    if (decide (i < (list.length : Int))) then
      (spec_l26Has faults i).bind fun y_4 =>
      if (!y_4) then
        ck (ixOk i list.length) <|
        ck (appOk (out.length + ([(list.getD i.toNat default)] : List Estimate).length) 56) <|
        some (.inl ((out ++ ([(list.getD i.toNat default)] : List Estimate)), (IntKind.i64.wrap (i + 1))))
      else
        some (.inl (out, (IntKind.i64.wrap (i + 1))))
    else
      some (.inr out)

/-- spec.CleanEstimates -/
noncomputable def spec_CleanEstimates (list : List Estimate) (faults : List Fault) : Option ((List Estimate) × Int) :=
  (spec_l26Code list faults).bind fun y_1 =>
  if (!(y_1 == 0)) then
    some (([] : List Estimate), y_1)
  else
    (whileE (spec_CleanEstimates_l1 list faults) (([] : List Estimate), 0)).bind fun y_8 =>
    some (y_8, 0)

/-- impl.count[impl.Estimate] -/
noncomputable def impl_count_impl_Estimate (list : List Estimate) : Option Int :=
  some (list.length : Int)

noncomputable def impl_ordered_l1 (faults : List Fault) (estimates : Int) (t7 : List Fault) (t8 : Int) : Int → Option (Int ⊕ (Unit ⊕ Bool))
  | t9 =>
    if (decide (t9 < t8)) then
      ck (ixOk t9 t7.length) <|
      (impl_in ((t7.getD t9.toNat default).Index) 0 (IntKind.i64.wrap (estimates - 1))).bind fun y_3 =>
      ck (!(!(!y_3)) || (impl_in ((t7.getD t9.toNat default).Kind) 1 5).isSome) <|
      if ((!y_3) || (!((impl_in ((t7.getD t9.toNat default).Kind) 1 5).getD default))) then
        some (.inr (.inr false))
      else
        ck (!(decide (0 < t9)) || ixOk (IntKind.i64.wrap (t9 - 1)) faults.length) <|
        ck (!((decide (0 < t9)) && !(decide (((t7.getD t9.toNat default).Index) < ((faults.getD (IntKind.i64.wrap (t9 - 1)).toNat default).Index)))) || ixOk (IntKind.i64.wrap (t9 - 1)) faults.length) <|
        ck (!(((decide (0 < t9)) && !(decide (((t7.getD t9.toNat default).Index) < ((faults.getD (IntKind.i64.wrap (t9 - 1)).toNat default).Index)))) && (((faults.getD (IntKind.i64.wrap (t9 - 1)).toNat default).Index) == ((t7.getD t9.toNat default).Index))) || ixOk (IntKind.i64.wrap (t9 - 1)) faults.length) <|
        if ((decide (0 < t9)) && ((decide (((t7.getD t9.toNat default).Index) < ((faults.getD (IntKind.i64.wrap (t9 - 1)).toNat default).Index))) || ((((faults.getD (IntKind.i64.wrap (t9 - 1)).toNat default).Index) == ((t7.getD t9.toNat default).Index)) && (decide (((t7.getD t9.toNat default).Kind) ≤ ((faults.getD (IntKind.i64.wrap (t9 - 1)).toNat default).Kind)))))) then
          some (.inr (.inr false))
        else
          some (.inl (IntKind.i64.wrap (t9 + 1)))
    else
      some (.inr (.inl ()))

/-- impl.ordered -/
noncomputable def impl_ordered (faults : List Fault) (estimates : Int) : Option Bool :=
  (whileE (impl_ordered_l1 faults estimates faults (faults.length : Int)) 0).bind fun y_10 =>
  match y_10 with
  | .inl y_10a =>
    some true
  | .inr y_10b =>
    some y_10b

/-- impl.audited -/
noncomputable def impl_audited (list : List Estimate) (faults : List Fault) : Option Int :=
  (impl_ValidEstimates list).bind fun y_1 =>
  if (!y_1) then
    some 1
  else
    (impl_count_impl_Estimate list).bind fun y_3 =>
    (impl_ordered faults y_3).bind fun y_4 =>
    if (!y_4) then
      some 2
    else
      some 0

/-- impl.isFaulty$1 -/
noncomputable def impl_isFaulty_c1 (x : Fault) (t1 : Int) : Option Bool :=
  some (x.Index == t1)

noncomputable def slices_IndexFunc_impl_Fault_impl_Fault__impl_isFaulty_c1_l1 (s_ : List Fault) (c : Int) (t7 : Int) : Int → Option (Int ⊕ (Unit ⊕ Int))
  | t8 =>
    if (decide (t8 < t7)) then
      ck (ixOk t8 s_.length) <|
      (impl_isFaulty_c1 (s_.getD t8.toNat default) c).bind fun y_3 =>
      if y_3 then
        some (.inr (.inr t8))
      else
        some (.inl (IntKind.i64.wrap (t8 + 1)))
    else
      some (.inr (.inl ()))

/-- slices.IndexFunc[[]impl.Fault,impl.Fault] -/
noncomputable def slices_IndexFunc_impl_Fault_impl_Fault__impl_isFaulty_c1 (s_ : List Fault) (f_c0 : Int) : Option Int :=
  (whileE (slices_IndexFunc_impl_Fault_impl_Fault__impl_isFaulty_c1_l1 s_ f_c0 (s_.length : Int)) 0).bind fun y_5 =>
  match y_5 with
  | .inl y_5a =>
    some (-1)
  | .inr y_5b =>
    some y_5b

/-- slices.ContainsFunc[[]impl.Fault,impl.Fault] -/
noncomputable def slices_ContainsFunc_impl_Fault_impl_Fault__impl_isFaulty_c1 (s_ : List Fault) (f_c0 : Int) : Option Bool :=
  (slices_IndexFunc_impl_Fault_impl_Fault__impl_isFaulty_c1 s_ f_c0).bind fun y_1 =>
  some (decide (0 ≤ y_1))

/-- impl.isFaulty -/
noncomputable def impl_isFaulty (faults : List Fault) (i : Int) : Option Bool :=
  (slices_ContainsFunc_impl_Fault_impl_Fault__impl_isFaulty_c1 faults i).bind fun y_1 =>
  some y_1

noncomputable def impl_CleanEstimates_l1 (faults : List Fault) (t17 : List Estimate) (t18 : Int) : ((List Estimate) × Int) → Option (((List Estimate) × Int) ⊕ (List Estimate))
  | (out, t19) =>
    if (decide (t19 < t18)) then
      ck (ixOk t19 t17.length) <|
      (impl_isFaulty faults t19).bind fun y_5 =>
      if (!y_5) then
        ck (appOk (out.length + ([(t17.getD t19.toNat default)] : List Estimate).length) 56) <|
        some (.inl ((out ++ ([(t17.getD t19.toNat default)] : List Estimate)), (IntKind.i64.wrap (t19 + 1))))
      else
        some (.inl (out, (IntKind.i64.wrap (t19 + 1))))
    else
      some (.inr out)

/-- impl.CleanEstimates -/
noncomputable def impl_CleanEstimates (list : List Estimate) (faults : List Fault) : Option ((List Estimate) × Int) :=
  (impl_audited list faults).bind fun y_1 =>
  if (!(y_1 == 0)) then
    some (([] : List Estimate), y_1)
  else
    (whileE (impl_CleanEstimates_l1 faults list (list.length : Int)) (([] : List Estimate), 0)).bind fun y_8 =>
    some (y_8, 0)

/-- laws.eqEstimate -/
noncomputable def laws_eqEstimate (a : Estimate) (b : Estimate) : Option Bool :=
  if (!(a.Time == b.Time)) then
    some false
  else
    if (!(a.Star == b.Star)) then
      some false
    else
      if (!(a.Observer == b.Observer)) then
        some false
      else
        if (!(a.Mag == b.Mag)) then
          some false
        else
          if (!(a.Fainter == b.Fainter)) then
            some false
          else
            some true

noncomputable def laws_eqEstimateS_l1 (a : List Estimate) (b : List Estimate) : Int → Option (Int ⊕ (Unit ⊕ Bool))
  | i =>
    if (decide (i < (a.length : Int))) then
      ck (ixOk i a.length) <|
      ck (ixOk i b.length) <|
      (laws_eqEstimate (a.getD i.toNat default) (b.getD i.toNat default)).bind fun y_5 =>
      if (!y_5) then
        some (.inr (.inr false))
      else
        some (.inl (IntKind.i64.wrap (i + 1)))
    else
      some (.inr (.inl ()))

/-- laws.eqEstimateS -/
noncomputable def laws_eqEstimateS (a : List Estimate) (b : List Estimate) : Option Bool :=
  if (!((a.length : Int) == (b.length : Int))) then
    some false
  else
    (whileE (laws_eqEstimateS_l1 a b) 0).bind fun y_7 =>
    match y_7 with
    | .inl y_7a =>
      some true
    | .inr y_7b =>
      some y_7b

/-- laws.eqFault -/
noncomputable def laws_eqFault (a : Fault) (b : Fault) : Option Bool :=
  if (!(a.Index == b.Index)) then
    some false
  else
    if (!(a.Kind == b.Kind)) then
      some false
    else
      some true

noncomputable def laws_eqFaultS_l1 (a : List Fault) (b : List Fault) : Int → Option (Int ⊕ (Unit ⊕ Bool))
  | i =>
    if (decide (i < (a.length : Int))) then
      ck (ixOk i a.length) <|
      ck (ixOk i b.length) <|
      (laws_eqFault (a.getD i.toNat default) (b.getD i.toNat default)).bind fun y_5 =>
      if (!y_5) then
        some (.inr (.inr false))
      else
        some (.inl (IntKind.i64.wrap (i + 1)))
    else
      some (.inr (.inl ()))

/-- laws.eqFaultS -/
noncomputable def laws_eqFaultS (a : List Fault) (b : List Fault) : Option Bool :=
  if (!((a.length : Int) == (b.length : Int))) then
    some false
  else
    (whileE (laws_eqFaultS_l1 a b) 0).bind fun y_7 =>
    match y_7 with
    | .inl y_7a =>
      some true
    | .inr y_7b =>
      some y_7b

noncomputable def laws_markText_l1  : (Int × (List UInt8)) → Option ((Int × (List UInt8)) ⊕ (List UInt8))
  | (k, out) =>
    if (decide (0 < k)) then
      ck (nz 10) <|
      ck (catOk ([(toU8 (IntKind.u8.wrap (IntKind.i64.wrap (48 + (k.tmod 10)))))] : List UInt8).length out.length) <|
      some (.inl ((IntKind.i64.wrap (k.tdiv 10)), (([(toU8 (IntKind.u8.wrap (IntKind.i64.wrap (48 + (k.tmod 10)))))] : List UInt8) ++ out)))
    else
      some (.inr out)

/-- laws.markText -/
noncomputable def laws_markText (k : Int) : Option (List UInt8) :=
  if (decide (k ≤ 0)) then
    some ([109, 48] : List UInt8)
  else
    (whileE (laws_markText_l1) (k, ([] : List UInt8))).bind fun y_5 =>
    ck (catOk ([109] : List UInt8).length y_5.length) <|
    some (([109] : List UInt8) ++ y_5)

noncomputable def laws_markEstimateS_l1  : ((List Estimate) × Int × Int) → Option (((List Estimate) × Int × Int) ⊕ ((List Estimate) × Int))
  | (a, k, i) =>
    if (decide (i < (a.length : Int))) then
      ck (ixOk i a.length) <|
      (laws_markText (IntKind.i64.wrap (k + 1))).bind fun y_3 =>
      (laws_markText (IntKind.i64.wrap ((IntKind.i64.wrap (k + 1)) + 1))).bind fun y_4 =>
      ck (nz 3) <|
      some (.inl ((a.set i.toNat (Estimate.mk k y_3 y_4 (IntKind.i64.wrap ((IntKind.i64.wrap ((IntKind.i64.wrap (k + 1)) + 1)) + 1)) (((IntKind.i64.wrap ((IntKind.i64.wrap ((IntKind.i64.wrap ((IntKind.i64.wrap (k + 1)) + 1)) + 1)) + 1)).tmod 3) == 0))), (IntKind.i64.wrap ((IntKind.i64.wrap ((IntKind.i64.wrap ((IntKind.i64.wrap ((IntKind.i64.wrap (k + 1)) + 1)) + 1)) + 1)) + 1)), (IntKind.i64.wrap (i + 1))))
    else
      some (.inr (a, k))

/-- laws.markEstimateS -/
noncomputable def laws_markEstimateS (a : List Estimate) (k : Int) : Option (Int × (List Estimate)) :=
  (whileE (laws_markEstimateS_l1) (a, k, 0)).bind fun y_6 =>
  ck (y_6.1.length == a.length) <|
  some (y_6.2, y_6.1)

noncomputable def laws_markFaultS_l1  : ((List Fault) × Int × Int) → Option (((List Fault) × Int × Int) ⊕ ((List Fault) × Int))
  | (a, k, i) =>
    if (decide (i < (a.length : Int))) then
      ck (ixOk i a.length) <|
      some (.inl ((a.set i.toNat (Fault.mk k (IntKind.i64.wrap (k + 1)))), (IntKind.i64.wrap ((IntKind.i64.wrap (k + 1)) + 1)), (IntKind.i64.wrap (i + 1))))
    else
      some (.inr (a, k))

/-- laws.markFaultS -/
noncomputable def laws_markFaultS (a : List Fault) (k : Int) : Option (Int × (List Fault)) :=
  (whileE (laws_markFaultS_l1) (a, k, 0)).bind fun y_3 =>
  ck (y_3.1.length == a.length) <|
  some (y_3.2, y_3.1)

noncomputable def laws_heldEstimateS_l1 (a : List Estimate) : (Int × Int) → Option ((Int × Int) ⊕ (Int ⊕ Int))
  | (k, i) =>
    if (decide (i < (a.length : Int))) then
      ck (ixOk i a.length) <|
      if (!(((a.getD i.toNat default).Time) == k)) then
        some (.inr (.inr (-1)))
      else
        (laws_markText (IntKind.i64.wrap (k + 1))).bind fun y_4 =>
        if (!(((a.getD i.toNat default).Star) == y_4)) then
          some (.inr (.inr (-1)))
        else
          (laws_markText (IntKind.i64.wrap ((IntKind.i64.wrap (k + 1)) + 1))).bind fun y_6 =>
          if (!(((a.getD i.toNat default).Observer) == y_6)) then
            some (.inr (.inr (-1)))
          else
            if (!(((a.getD i.toNat default).Mag) == (IntKind.i64.wrap ((IntKind.i64.wrap ((IntKind.i64.wrap (k + 1)) + 1)) + 1)))) then
              some (.inr (.inr (-1)))
            else
              ck (nz 3) <|
              if (!(((a.getD i.toNat default).Fainter) == (((IntKind.i64.wrap ((IntKind.i64.wrap ((IntKind.i64.wrap ((IntKind.i64.wrap (k + 1)) + 1)) + 1)) + 1)).tmod 3) == 0))) then
                some (.inr (.inr (-1)))
              else
                some (.inl ((IntKind.i64.wrap ((IntKind.i64.wrap ((IntKind.i64.wrap ((IntKind.i64.wrap ((IntKind.i64.wrap (k + 1)) + 1)) + 1)) + 1)) + 1)), (IntKind.i64.wrap (i + 1))))
    else
      some (.inr (.inl k))

/-- laws.heldEstimateS -/
noncomputable def laws_heldEstimateS (a : List Estimate) (k : Int) : Option Int :=
  (whileE (laws_heldEstimateS_l1 a) (k, 0)).bind fun y_11 =>
  match y_11 with
  | .inl y_11a =>
    some y_11a
  | .inr y_11b =>
    some y_11b

/-- laws.FnExactCleanEstimates -/
noncomputable def laws_FnExactCleanEstimates (aList : List Estimate) (aFaults : List Fault) : Option Bool :=
  (laws_szEstimateS aList 1048576).bind fun y_1 =>
  if (decide (y_1 < 0)) then
    some true
  else
    (laws_szFaultS aFaults y_1).bind fun y_3 =>
    if (decide (y_3 < 0)) then
      some true
    else
      (laws_toEstimateS aList).bind fun y_5 =>
      (laws_toFaultS aFaults).bind fun y_6 =>
      (spec_CleanEstimates y_5 y_6).bind fun y_7 =>
      (impl_CleanEstimates y_5 y_6).bind fun y_8 =>
      (laws_eqEstimateS y_8.1 y_7.1).bind fun y_9 =>
      if ((!y_9) || (!(y_8.2 == y_7.2))) then
        some false
      else
        (laws_eqEstimateS y_5 y_5).bind fun y_11 =>
        if (!y_11) then
          some false
        else
          (laws_eqFaultS y_6 y_6).bind fun y_13 =>
          if (!y_13) then
            some false
          else
            (laws_markEstimateS y_5 1).bind fun y_15 =>
            (laws_markFaultS y_6 y_15.1).bind fun y_16 =>
            if (((decide (y_16.1 < 0)) || (!y_9)) || (!(y_8.2 == y_7.2))) then
              some false
            else
              (laws_markEstimateS y_8.1 1).bind fun y_19 =>
              (laws_heldEstimateS y_19.2 1).bind fun y_20 =>
              if (decide (y_20 < 0)) then
                some false
              else
                if (!(y_20 == y_19.1)) then
                  some false
                else
                  some true

end Go.Proofs.Ytgbibhhblimfiab
