/- Typed forms of the functions that RC reaches. No condition. -/
import Derived.Test.YtpnomhinhcochaaGreatDoorEngSI
namespace Go.Proofs.YtpnomhinhcochaaGreatDoor
open Go Go.RowKit
set_option linter.unusedVariables false

structure Estimate where
  Time : Int
  Star : List UInt8
  Observer : List UInt8
  Mag : Int
  Fainter : Bool
  deriving Inhabited, DecidableEq
def Estimate_av (x : Estimate) : AV := .agg ([.int .i64 x.Time, .str x.Star, .str x.Observer, .int .i64 x.Mag, .bool x.Fainter])

structure L00Src where
  code_ : List UInt8
  at_ : Int
  seed_ : Int
  deriving Inhabited, DecidableEq
def L00Src_av (x : L00Src) : AV := .agg ([.sl 1 (List.map byteAV x.code_), .int .i64 x.at_, .int .u64 x.seed_])

attribute [go_sem] Estimate_av L00Src_av

/-- laws.a2Long -/
noncomputable def laws_a2Long (code : List UInt8) (more : List UInt8) : Option Bool :=
  some ((decide (3000 < (code.length : Int))) || (decide (3000 < (more.length : Int))))

/-- spec.l00From -/
noncomputable def spec_l00From (code : List UInt8) : Option L00Src :=
  some (L00Src.mk code 0 0)

/-- (*spec.l00Src).next -/
noncomputable def spec_l00Src_next (s_ : L00Src) : Option (Int × L00Src) :=
  if (decide (s_.at_ < (s_.code_.length : Int))) then
    ck (ixOk s_.at_ s_.code_.length) <|
    if (decide ((IntKind.i64.wrap (s_.at_ + 1)) ≤ (s_.code_.length : Int))) then
      some (((s_.code_.getD s_.at_.toNat default).toNat : Int), (L00Src.mk s_.code_ (IntKind.i64.wrap (s_.at_ + 1)) (IntKind.u64.wrap ((IntKind.u64.wrap ((IntKind.u64.wrap (s_.seed_ * 6364136223846793005)) + (IntKind.u64.wrap ((s_.code_.getD s_.at_.toNat default).toNat : Int)))) + 1442695040888963407))))
    else
      ck (shOk 40) <|
      some ((IntKind.i64.wrap (IntKind.u64.wrap (BitVec.ofInt (IntKind.bits .u64) ((IntKind.u64.wrap ((IntKind.u64.wrap ((IntKind.u64.wrap (s_.seed_ * 6364136223846793005)) + (IntKind.u64.wrap ((s_.code_.getD s_.at_.toNat default).toNat : Int)))) + 1442695040888963407)).fdiv (2 ^ (min 40 64))) &&& BitVec.ofInt (IntKind.bits .u64) 255).toNat)), (L00Src.mk s_.code_ (IntKind.i64.wrap (s_.at_ + 1)) (IntKind.u64.wrap ((IntKind.u64.wrap ((IntKind.u64.wrap (s_.seed_ * 6364136223846793005)) + (IntKind.u64.wrap ((s_.code_.getD s_.at_.toNat default).toNat : Int)))) + 1442695040888963407))))
  else
    if (decide ((IntKind.i64.wrap (s_.at_ + 1)) ≤ (s_.code_.length : Int))) then
      some (0, (L00Src.mk s_.code_ (IntKind.i64.wrap (s_.at_ + 1)) (IntKind.u64.wrap ((IntKind.u64.wrap ((IntKind.u64.wrap (s_.seed_ * 6364136223846793005)) + (IntKind.u64.wrap 0))) + 1442695040888963407))))
    else
      ck (shOk 40) <|
      some ((IntKind.i64.wrap (IntKind.u64.wrap (BitVec.ofInt (IntKind.bits .u64) ((IntKind.u64.wrap ((IntKind.u64.wrap ((IntKind.u64.wrap (s_.seed_ * 6364136223846793005)) + (IntKind.u64.wrap 0))) + 1442695040888963407)).fdiv (2 ^ (min 40 64))) &&& BitVec.ofInt (IntKind.bits .u64) 255).toNat)), (L00Src.mk s_.code_ (IntKind.i64.wrap (s_.at_ + 1)) (IntKind.u64.wrap ((IntKind.u64.wrap ((IntKind.u64.wrap (s_.seed_ * 6364136223846793005)) + (IntKind.u64.wrap 0))) + 1442695040888963407))))

/-- (*spec.l00Src).pick -/
noncomputable def spec_l00Src_pick (s_ : L00Src) (n : Int) : Option (Int × L00Src) :=
  if (decide (n ≤ 1)) then
    some (0, s_)
  else
    (spec_l00Src_next s_).bind fun y_2 =>
    if (decide (200 < n)) then
      (spec_l00Src_next y_2.2).bind fun y_4 =>
      ck (nz n) <|
      some (((IntKind.i64.wrap ((IntKind.i64.wrap (y_2.1 * 256)) + y_4.1)).tmod n), y_4.2)
    else
      ck (nz n) <|
      some ((y_2.1.tmod n), y_2.2)

/-- (*spec.l00Src).one -/
noncomputable def spec_l00Src_one (s_ : L00Src) (n : Int) : Option (Bool × L00Src) :=
  (spec_l00Src_pick s_ n).bind fun y_1 =>
  some ((y_1.1 == 0), y_1.2)

/-- (*spec.l00Src).text -/
noncomputable def spec_l00Src_text (s_ : L00Src) (list : List (List UInt8)) : Option ((List UInt8) × L00Src) :=
  (spec_l00Src_pick s_ (list.length : Int)).bind fun y_1 =>
  ck (ixOk y_1.1 list.length) <|
  some ((list.getD y_1.1.toNat default), y_1.2)

/-- spec.l06New -/
noncomputable def spec_l06New (s_ : L00Src) : Option (Estimate × L00Src) :=
  (spec_l00Src_pick s_ 30).bind fun y_1 =>
  (spec_l00Src_one y_1.2 2).bind fun y_2 =>
  if y_2.1 then
    (spec_l00Src_pick y_2.2 3000).bind fun y_4 =>
    (spec_l00Src_text y_4.2 ([([109, 105, 114, 97] : List UInt8), ([114, 114, 45, 108, 121, 114] : List UInt8), ([115, 115, 45, 99, 121, 103] : List UInt8)] : List (List UInt8))).bind fun y_5 =>
    (spec_l00Src_text y_5.2 ([([97, 98] : List UInt8), ([99, 100] : List UInt8), ([101] : List UInt8)] : List (List UInt8))).bind fun y_6 =>
    (spec_l00Src_pick y_6.2 60).bind fun y_7 =>
    (spec_l00Src_one y_7.2 5).bind fun y_8 =>
    some ((Estimate.mk (IntKind.i64.wrap ((IntKind.i64.wrap (1000 * y_1.1)) + y_4.1)) y_5.1 y_6.1 (IntKind.i64.wrap (8000 + (IntKind.i64.wrap (50 * y_7.1)))) y_8.1), y_8.2)
  else
    (spec_l00Src_text y_2.2 ([([109, 105, 114, 97] : List UInt8), ([114, 114, 45, 108, 121, 114] : List UInt8), ([115, 115, 45, 99, 121, 103] : List UInt8)] : List (List UInt8))).bind fun y_9 =>
    (spec_l00Src_text y_9.2 ([([97, 98] : List UInt8), ([99, 100] : List UInt8), ([101] : List UInt8)] : List (List UInt8))).bind fun y_10 =>
    (spec_l00Src_pick y_10.2 60).bind fun y_11 =>
    (spec_l00Src_one y_11.2 5).bind fun y_12 =>
    some ((Estimate.mk (IntKind.i64.wrap (1000 * y_1.1)) y_9.1 y_10.1 (IntKind.i64.wrap (8000 + (IntKind.i64.wrap (50 * y_11.1)))) y_12.1), y_12.2)

/-- spec.l06Before -/
noncomputable def spec_l06Before (a : Estimate) (b : Estimate) : Option Bool :=
  if (!(a.Time == b.Time)) then
    some (decide (a.Time < b.Time))
  else
    if (!(a.Star == b.Star)) then
      some (Op.bytesLess a.Star b.Star)
    else
      some (Op.bytesLess a.Observer b.Observer)

noncomputable def spec_l06Find_l1 (list : List Estimate) (e_ : Estimate) : Int → Option (Int ⊕ (Unit ⊕ Int))
  | i =>
    if (decide (i < (list.length : Int))) then
      ck (ixOk i list.length) <|
      (spec_l06Before (list.getD i.toNat default) e_).bind fun y_3 =>
      ck (!(!y_3) || (spec_l06Before e_ (list.getD i.toNat default)).isSome) <|
      if ((!y_3) && (!((spec_l06Before e_ (list.getD i.toNat default)).getD default))) then
        some (.inr (.inr i))
      else
        some (.inl (IntKind.i64.wrap (i + 1)))
    else
      some (.inr (.inl ()))

/-- spec.l06Find -/
noncomputable def spec_l06Find (list : List Estimate) (e_ : Estimate) : Option Int :=
  (whileE (spec_l06Find_l1 list e_) 0).bind fun y_6 =>
  match y_6 with
  | .inl y_6a =>
    some (-1)
  | .inr y_6b =>
    some y_6b

noncomputable def spec_l06Put_l1 (list : List Estimate) (e_ : Estimate) : Int → Option (Int ⊕ Int)
  | k =>
    ck (!(decide (0 < k)) || ixOk (IntKind.i64.wrap (k - 1)) list.length) <|
    ck (!(decide (0 < k)) || (spec_l06Before e_ (list.getD (IntKind.i64.wrap (k - 1)).toNat default)).isSome) <|
    if ((decide (0 < k)) && ((spec_l06Before e_ (list.getD (IntKind.i64.wrap (k - 1)).toNat default)).getD default)) then
      some (.inl (IntKind.i64.wrap (k - 1)))
    else
      some (.inr k)

/-- spec.l06Put -/
noncomputable def spec_l06Put (list : List Estimate) (e_ : Estimate) : Option (List Estimate) :=
  (whileE (spec_l06Put_l1 list e_) (list.length : Int)).bind fun y_4 =>
  ck (cutOk 0 y_4 list.length) <|
  ck (appOk (([] : List Estimate).length + (cut list 0 y_4).length) 56) <|
  ck (appOk ((([] : List Estimate) ++ (cut list 0 y_4)).length + ([e_] : List Estimate).length) 56) <|
  ck (cutOk y_4 (list.length : Int) list.length) <|
  ck (appOk (((([] : List Estimate) ++ (cut list 0 y_4)) ++ ([e_] : List Estimate)).length + (cut list y_4 (list.length : Int)).length) 56) <|
  some (((([] : List Estimate) ++ (cut list 0 y_4)) ++ ([e_] : List Estimate)) ++ (cut list y_4 (list.length : Int)))

noncomputable def spec_l06Draw_l1  : (L00Src × (List Estimate) × Int) → Option ((L00Src × (List Estimate) × Int) ⊕ (L00Src × (List Estimate)))
  | (s_, out, k) =>
    if (decide (0 < k)) then
      (spec_l06New s_).bind fun y_3 =>
      (spec_l06Find out y_3.1).bind fun y_4 =>
      if (decide (y_4 < 0)) then
        (spec_l06Put out y_3.1).bind fun y_6 =>
        some (.inl (y_3.2, y_6, (IntKind.i64.wrap (k - 1))))
      else
        some (.inl (y_3.2, out, (IntKind.i64.wrap (k - 1))))
    else
      some (.inr (s_, out))

/-- spec.l06Draw -/
noncomputable def spec_l06Draw (s_ : L00Src) (most : Int) : Option ((List Estimate) × L00Src) :=
  (spec_l00Src_pick s_ (IntKind.i64.wrap (most + 1))).bind fun y_1 =>
  (whileE (spec_l06Draw_l1) (y_1.2, ([] : List Estimate), y_1.1)).bind fun y_7 =>
  some (y_7.2, y_7.1)

/-- spec.A2Estimates -/
noncomputable def spec_A2Estimates (code : List UInt8) : Option (List Estimate) :=
  (spec_l00From code).bind fun y_1 =>
  (spec_l06Draw y_1 12).bind fun y_2 =>
  some y_2.1

/-- spec.A2Estimate -/
noncomputable def spec_A2Estimate (code : List UInt8) : Option Estimate :=
  (spec_l00From code).bind fun y_1 =>
  (spec_l06New y_1).bind fun y_2 =>
  some y_2.1

/-- impl.in -/
noncomputable def impl_in (n : Int) (low : Int) (high : Int) : Option Bool :=
  some ((decide (low ≤ n)) && (decide (n ≤ high)))

/-- impl.ValidTime -/
noncomputable def impl_ValidTime (t : Int) : Option Bool :=
  (impl_in t 0 10000000).bind fun y_1 =>
  some y_1

noncomputable def impl_IsName_l1 (s_ : List UInt8) (t15 : Int) : Int → Option (Int ⊕ (Unit ⊕ Bool))
  | t16 =>
    if (decide (t16 < t15)) then
      ck (ixOk t16 s_.length) <|
      if ((!((decide (97 ≤ ((s_.getD t16.toNat 0).toNat : Int))) && (decide (((s_.getD t16.toNat 0).toNat : Int) ≤ 122)))) && ((t16 == 0) || (!(((decide (48 ≤ ((s_.getD t16.toNat 0).toNat : Int))) && (decide (((s_.getD t16.toNat 0).toNat : Int) ≤ 57))) || (((s_.getD t16.toNat 0).toNat : Int) == 45))))) then
        some (.inr (.inr false))
      else
        some (.inl (IntKind.i64.wrap (t16 + 1)))
    else
      some (.inr (.inl ()))

/-- impl.IsName -/
noncomputable def impl_IsName (s_ : List UInt8) : Option Bool :=
  if ((decide ((s_.length : Int) < 1)) || (decide (12 < (s_.length : Int)))) then
    some false
  else
    (whileE (impl_IsName_l1 s_ (s_.length : Int)) 0).bind fun y_5 =>
    match y_5 with
    | .inl y_5a =>
      some true
    | .inr y_5b =>
      some y_5b

/-- impl.ValidMag -/
noncomputable def impl_ValidMag (m : Int) : Option Bool :=
  (impl_in m (-2000) 20000).bind fun y_1 =>
  some y_1

/-- impl.isEstimate -/
noncomputable def impl_isEstimate (e_ : Estimate) : Option Bool :=
  (impl_ValidTime e_.Time).bind fun y_1 =>
  ck (!y_1 || (impl_IsName e_.Star).isSome) <|
  ck (!(y_1 && ((impl_IsName e_.Star).getD default)) || (impl_IsName e_.Observer).isSome) <|
  ck (!((y_1 && ((impl_IsName e_.Star).getD default)) && ((impl_IsName e_.Observer).getD default)) || (impl_ValidMag e_.Mag).isSome) <|
  some (((y_1 && ((impl_IsName e_.Star).getD default)) && ((impl_IsName e_.Observer).getD default)) && ((impl_ValidMag e_.Mag).getD default))

/-- cmp.isNaN[int64] -/
noncomputable def cmp_isNaN_int64 (x : Int) : Option Bool :=
  some (!(x == x))

/-- cmp.Compare[int64] -/
noncomputable def cmp_Compare_int64 (x : Int) (y : Int) : Option Int :=
  (cmp_isNaN_int64 x).bind fun y_1 =>
  (cmp_isNaN_int64 y).bind fun y_2 =>
  if y_1 then
    if y_2 then
      some 0
    else
      some (-1)
  else
    if y_2 then
      some 1
    else
      if (decide (x < y)) then
        some (-1)
      else
        if (decide (y < x)) then
          some 1
        else
          some 0


/-- internal/bytealg.CompareString -/
noncomputable def internal_bytealg_CompareString (a : List UInt8) (b : List UInt8) : Option Int :=
  (hCmp a b).bind fun y_1 =>
  some y_1

/-- strings.Compare -/
noncomputable def strings_Compare (a : List UInt8) (b : List UInt8) : Option Int :=
  (internal_bytealg_CompareString a b).bind fun y_1 =>
  some y_1

noncomputable def cmp_Or_int_l1 (zero : Int) (t6 : List Int) (t7 : Int) : Int → Option (Int ⊕ (Unit ⊕ Int))
  | t8 =>
    if (decide (t8 < t7)) then
      ck (ixOk t8 t6.length) <|
      if (!((t6.getD t8.toNat default) == zero)) then
        some (.inr (.inr (t6.getD t8.toNat default)))
      else
        some (.inl (IntKind.i64.wrap (t8 + 1)))
    else
      some (.inr (.inl ()))

/-- cmp.Or[int] -/
noncomputable def cmp_Or_int (vals : List Int) : Option Int :=
  (whileE (cmp_Or_int_l1 0 vals (vals.length : Int)) 0).bind fun y_4 =>
  match y_4 with
  | .inl y_4a =>
    some 0
  | .inr y_4b =>
    some y_4b

/-- impl.compareEstimates -/
noncomputable def impl_compareEstimates (a : Estimate) (b : Estimate) : Option Int :=
  (cmp_Compare_int64 a.Time b.Time).bind fun y_1 =>
  (strings_Compare a.Star b.Star).bind fun y_2 =>
  (strings_Compare a.Observer b.Observer).bind fun y_3 =>
  (cmp_Or_int ([y_1, y_2, y_3] : List Int)).bind fun y_4 =>
  some y_4

noncomputable def impl_ValidEstimates_l1 (list : List Estimate) (t8 : List Estimate) (t9 : Int) : Int → Option (Int ⊕ (Unit ⊕ Bool))
  | t10 =>
    if (decide (t10 < t9)) then
      ck (ixOk t10 t8.length) <|
      (impl_isEstimate (t8.getD t10.toNat default)).bind fun y_4 =>
      ck (!((!(!y_4)) && (decide (0 < t10))) || ixOk (IntKind.i64.wrap (t10 - 1)) list.length) <|
      ck (!((!(!y_4)) && (decide (0 < t10))) || (impl_compareEstimates (list.getD (IntKind.i64.wrap (t10 - 1)).toNat default) (t8.getD t10.toNat default)).isSome) <|
      if ((!y_4) || ((decide (0 < t10)) && (decide (0 ≤ ((impl_compareEstimates (list.getD (IntKind.i64.wrap (t10 - 1)).toNat default) (t8.getD t10.toNat default)).getD default))))) then
        some (.inr (.inr false))
      else
        some (.inl (IntKind.i64.wrap (t10 + 1)))
    else
      some (.inr (.inl ()))

/-- impl.ValidEstimates -/
noncomputable def impl_ValidEstimates (list : List Estimate) : Option Bool :=
  if (decide (100 < (list.length : Int))) then
    some false
  else
    (whileE (impl_ValidEstimates_l1 list list (list.length : Int)) 0).bind fun y_8 =>
    match y_8 with
    | .inl y_8a =>
      some true
    | .inr y_8b =>
      some y_8b

/-- impl.copyOf[impl.Estimate] -/
noncomputable def impl_copyOf_impl_Estimate (list : List Estimate) : Option (List Estimate) :=
  ck (appOk (([] : List Estimate).length + list.length) 56) <|
  some (([] : List Estimate) ++ list)

noncomputable def slices_BinarySearchFunc_impl_Estimate_impl_Estimate_impl_Estimate__impl_compareEstimates_l1 (x : List Estimate) (target : Estimate) (n : Int) : (Int × Int) → Option ((Int × Int) ⊕ Int)
  | (i, j) =>
    if (decide (i < j)) then
      ck (shOk 1) <|
      ck (ixOk (IntKind.i64.wrap ((IntKind.u64.wrap (IntKind.i64.wrap (i + j))).fdiv (2 ^ (min 1 64)))) x.length) <|
      (impl_compareEstimates (x.getD (IntKind.i64.wrap ((IntKind.u64.wrap (IntKind.i64.wrap (i + j))).fdiv (2 ^ (min 1 64)))).toNat default) target).bind fun y_4 =>
      if (decide (y_4 < 0)) then
        some (.inl ((IntKind.i64.wrap ((IntKind.i64.wrap ((IntKind.u64.wrap (IntKind.i64.wrap (i + j))).fdiv (2 ^ (min 1 64)))) + 1)), j))
      else
        some (.inl (i, (IntKind.i64.wrap ((IntKind.u64.wrap (IntKind.i64.wrap (i + j))).fdiv (2 ^ (min 1 64))))))
    else
      some (.inr i)

/-- slices.BinarySearchFunc[[]impl.Estimate,impl.Estimate,impl.Estimate] -/
noncomputable def slices_BinarySearchFunc_impl_Estimate_impl_Estimate_impl_Estimate__impl_compareEstimates (x : List Estimate) (target : Estimate) : Option (Int × Bool) :=
  (whileE (slices_BinarySearchFunc_impl_Estimate_impl_Estimate_impl_Estimate__impl_compareEstimates_l1 x target (x.length : Int)) (0, (x.length : Int))).bind fun y_6 =>
  ck (!(decide (y_6 < (x.length : Int))) || ixOk y_6 x.length) <|
  ck (!(decide (y_6 < (x.length : Int))) || (impl_compareEstimates (x.getD y_6.toNat default) target).isSome) <|
  some (y_6, ((decide (y_6 < (x.length : Int))) && (((impl_compareEstimates (x.getD y_6.toNat default) target).getD default) == 0)))


noncomputable def impl_MergeEstimates_l1 (t21 : List Estimate) (t22 : Int) : ((List Estimate) × Int) → Option (((List Estimate) × Int) ⊕ ((List Estimate) ⊕ ((List Estimate) × Int)))
  | (out, t23) =>
    if (decide (t23 < t22)) then
      ck (ixOk t23 t21.length) <|
      (slices_BinarySearchFunc_impl_Estimate_impl_Estimate_impl_Estimate__impl_compareEstimates out (t21.getD t23.toNat default)).bind fun y_7 =>
      if (!y_7.2) then
        (hIns 56 out y_7.1 ([(t21.getD t23.toNat default)] : List Estimate)).bind fun y_9 =>
        some (.inl (y_9, (IntKind.i64.wrap (t23 + 1))))
      else
        ck (ixOk y_7.1 out.length) <|
        if (!((((out.getD y_7.1.toNat default).Time) == ((t21.getD t23.toNat default).Time)) && ((((out.getD y_7.1.toNat default).Star) == ((t21.getD t23.toNat default).Star)) && ((((out.getD y_7.1.toNat default).Observer) == ((t21.getD t23.toNat default).Observer)) && ((((out.getD y_7.1.toNat default).Mag) == ((t21.getD t23.toNat default).Mag)) && (((out.getD y_7.1.toNat default).Fainter) == ((t21.getD t23.toNat default).Fainter))))))) then
          some (.inr (.inr (([] : List Estimate), 9)))
        else
          some (.inl (out, (IntKind.i64.wrap (t23 + 1))))
    else
      some (.inr (.inl out))

/-- impl.MergeEstimates -/
noncomputable def impl_MergeEstimates (a : List Estimate) (b : List Estimate) : Option ((List Estimate) × Int) :=
  (impl_ValidEstimates a).bind fun y_1 =>
  ck (!(!(!y_1)) || (impl_ValidEstimates b).isSome) <|
  if ((!y_1) || (!((impl_ValidEstimates b).getD default))) then
    some (([] : List Estimate), 1)
  else
    (impl_copyOf_impl_Estimate a).bind fun y_4 =>
    (whileE (impl_MergeEstimates_l1 b (b.length : Int)) (y_4, 0)).bind fun y_12 =>
    match y_12 with
    | .inl y_12a =>
      if (decide (100 < (y_12a.length : Int))) then
        some (([] : List Estimate), 5)
      else
        some (y_12a, 0)
    | .inr y_12b =>
      some (y_12b.1, y_12b.2)

noncomputable def spec_SameEstimates_l1 (a : List Estimate) (b : List Estimate) : Int → Option (Int ⊕ (Unit ⊕ Bool))
  | i =>
    if (decide (i < (a.length : Int))) then
      ck (ixOk i a.length) <|
      ck (ixOk i b.length) <|
      if (!((((a.getD i.toNat default).Time) == ((b.getD i.toNat default).Time)) && ((((a.getD i.toNat default).Star) == ((b.getD i.toNat default).Star)) && ((((a.getD i.toNat default).Observer) == ((b.getD i.toNat default).Observer)) && ((((a.getD i.toNat default).Mag) == ((b.getD i.toNat default).Mag)) && (((a.getD i.toNat default).Fainter) == ((b.getD i.toNat default).Fainter))))))) then
        some (.inr (.inr false))
      else
        some (.inl (IntKind.i64.wrap (i + 1)))
    else
      some (.inr (.inl ()))

/-- spec.SameEstimates -/
noncomputable def spec_SameEstimates (a : List Estimate) (b : List Estimate) : Option Bool :=
  if (!((a.length : Int) == (b.length : Int))) then
    some false
  else
    (whileE (spec_SameEstimates_l1 a b) 0).bind fun y_6 =>
    match y_6 with
    | .inl y_6a =>
      some true
    | .inr y_6b =>
      some y_6b

noncomputable def slices_Equal_impl_Estimate_impl_Estimate_l1 (s1 : List Estimate) (s2 : List Estimate) (t12 : Int) : Int → Option (Int ⊕ (Unit ⊕ Bool))
  | t13 =>
    if (decide (t13 < t12)) then
      ck (ixOk t13 s1.length) <|
      ck (ixOk t13 s2.length) <|
      if (!((((s1.getD t13.toNat default).Time) == ((s2.getD t13.toNat default).Time)) && ((((s1.getD t13.toNat default).Star) == ((s2.getD t13.toNat default).Star)) && ((((s1.getD t13.toNat default).Observer) == ((s2.getD t13.toNat default).Observer)) && ((((s1.getD t13.toNat default).Mag) == ((s2.getD t13.toNat default).Mag)) && (((s1.getD t13.toNat default).Fainter) == ((s2.getD t13.toNat default).Fainter))))))) then
        some (.inr (.inr false))
      else
        some (.inl (IntKind.i64.wrap (t13 + 1)))
    else
      some (.inr (.inl ()))

/-- slices.Equal[[]impl.Estimate,impl.Estimate] -/
noncomputable def slices_Equal_impl_Estimate_impl_Estimate (s1 : List Estimate) (s2 : List Estimate) : Option Bool :=
  if (!((s1.length : Int) == (s2.length : Int))) then
    some false
  else
    (whileE (slices_Equal_impl_Estimate_impl_Estimate_l1 s1 s2 (s1.length : Int)) 0).bind fun y_6 =>
    match y_6 with
    | .inl y_6a =>
      some true
    | .inr y_6b =>
      some y_6b

/-- impl.SameEstimates -/
noncomputable def impl_SameEstimates (a : List Estimate) (b : List Estimate) : Option Bool :=
  (slices_Equal_impl_Estimate_impl_Estimate a b).bind fun y_1 =>
  some y_1


/-- strconv.FormatInt -/
noncomputable def strconv_FormatInt (i : Int) (base : Int) : Option (List UInt8) :=
  (hFmt i base).bind fun y_1 =>
  some y_1

/-- impl.Decimal -/
noncomputable def impl_Decimal (n : Int) : Option (List UInt8) :=
  (strconv_FormatInt n 10).bind fun y_1 =>
  some y_1


/-- impl.abs -/
noncomputable def impl_abs (n : Int) : Option Int :=
  if (decide (n < 0)) then
    some (IntKind.i64.wrap (0 - n))
  else
    some n

noncomputable def impl_padded_l1 (digits : Int) : (List UInt8) → Option ((List UInt8) ⊕ (List UInt8))
  | s_ =>
    if (decide ((s_.length : Int) < digits)) then
      ck (catOk ([48] : List UInt8).length s_.length) <|
      some (.inl (([48] : List UInt8) ++ s_))
    else
      some (.inr s_)

/-- impl.padded -/
noncomputable def impl_padded (n : Int) (digits : Int) : Option (List UInt8) :=
  (impl_Decimal n).bind fun y_1 =>
  (whileE (impl_padded_l1 digits) y_1).bind fun y_4 =>
  some y_4

/-- impl.MagText -/
noncomputable def impl_MagText (m : Int) : Option (List UInt8) :=
  (impl_ValidMag m).bind fun y_1 =>
  if (!y_1) then
    some ([] : List UInt8)
  else
    if (decide (m < 0)) then
      (impl_abs m).bind fun y_4 =>
      ck (nz 1000) <|
      (impl_Decimal (IntKind.i64.wrap (y_4.tdiv 1000))).bind fun y_6 =>
      ck (catOk ([45] : List UInt8).length y_6.length) <|
      ck (catOk (([45] : List UInt8) ++ y_6).length ([46] : List UInt8).length) <|
      (impl_padded (y_4.tmod 1000) 3).bind fun y_9 =>
      ck (catOk ((([45] : List UInt8) ++ y_6) ++ ([46] : List UInt8)).length y_9.length) <|
      some (((([45] : List UInt8) ++ y_6) ++ ([46] : List UInt8)) ++ y_9)
    else
      (impl_abs m).bind fun y_11 =>
      ck (nz 1000) <|
      (impl_Decimal (IntKind.i64.wrap (y_11.tdiv 1000))).bind fun y_13 =>
      ck (catOk ([] : List UInt8).length y_13.length) <|
      ck (catOk (([] : List UInt8) ++ y_13).length ([46] : List UInt8).length) <|
      (impl_padded (y_11.tmod 1000) 3).bind fun y_16 =>
      ck (catOk ((([] : List UInt8) ++ y_13) ++ ([46] : List UInt8)).length y_16.length) <|
      some (((([] : List UInt8) ++ y_13) ++ ([46] : List UInt8)) ++ y_16)

/-- (impl.Estimate).line -/
noncomputable def impl_Estimate_line (e_ : Estimate) : Option (List UInt8) :=
  (impl_MagText e_.Mag).bind fun y_1 =>
  if e_.Fainter then
    ck (catOk ([60] : List UInt8).length y_1.length) <|
    (impl_Decimal e_.Time).bind fun y_4 =>
    (hJoin ([y_4, e_.Star, e_.Observer, (([60] : List UInt8) ++ y_1)] : List (List UInt8)) ([32] : List UInt8)).bind fun y_5 =>
    some y_5
  else
    (impl_Decimal e_.Time).bind fun y_6 =>
    (hJoin ([y_6, e_.Star, e_.Observer, y_1] : List (List UInt8)) ([32] : List UInt8)).bind fun y_7 =>
    some y_7

/-- impl.EstimatesText, by hand -/
noncomputable def impl_EstimatesText_l : List UInt8 → List Estimate → Option (List UInt8)
  | acc, [] => some acc
  | acc, e :: r =>
    (impl_Estimate_line e).bind fun t =>
    ck (decide (acc.length + t.length + 1 ≤ 140737488355328)) <|
    impl_EstimatesText_l (acc ++ t ++ [10]) r

noncomputable def impl_EstimatesText (list : List Estimate) : Option (List UInt8) :=
  (impl_ValidEstimates list).bind fun y =>
  if (!y) then some [] else
  ck (decide (list.length ≤ 1099511627776)) <|
  impl_EstimatesText_l [] list



/-- internal/stringslite.HasPrefix -/
noncomputable def internal_stringslite_HasPrefix (s_ : List UInt8) (prefix_ : List UInt8) : Option Bool :=
  ck (!(decide ((prefix_.length : Int) ≤ (s_.length : Int))) || cutOk 0 (prefix_.length : Int) s_.length) <|
  some ((decide ((prefix_.length : Int) ≤ (s_.length : Int))) && ((cut s_ 0 (prefix_.length : Int)) == prefix_))

/-- internal/stringslite.CutPrefix -/
noncomputable def internal_stringslite_CutPrefix (s_ : List UInt8) (prefix_ : List UInt8) : Option ((List UInt8) × Bool) :=
  (internal_stringslite_HasPrefix s_ prefix_).bind fun y_1 =>
  if (!y_1) then
    some (s_, false)
  else
    ck (cutOk (prefix_.length : Int) (s_.length : Int) s_.length) <|
    some ((cut s_ (prefix_.length : Int) (s_.length : Int)), true)

/-- strings.CutPrefix -/
noncomputable def strings_CutPrefix (s_ : List UInt8) (prefix_ : List UInt8) : Option ((List UInt8) × Bool) :=
  (internal_stringslite_CutPrefix s_ prefix_).bind fun y_1 =>
  some (y_1.1, y_1.2)


noncomputable def impl_ReadMag_l1 (s_ : List UInt8) (negative : Bool) (rest_ : List UInt8) (t44 : List Int) (t45 : Int) : (Int × Int) → Option ((Int × Int) ⊕ Int)
  | (m, t46) =>
    if (decide (t46 < t45)) then
      ck (ixOk t46 t44.length) <|
      ck (ixOk t46 rest_.length) <|
      some (.inl ((IntKind.i64.wrap (m + (IntKind.i64.wrap ((t44.getD t46.toNat default) * (IntKind.i64.wrap (IntKind.u8.wrap (((rest_.getD t46.toNat 0).toNat : Int) - 48))))))), (IntKind.i64.wrap (t46 + 1))))
    else
      some (.inr m)

/-- impl.ReadMag -/
noncomputable def impl_ReadMag (s_ : List UInt8) : Option (Int × Bool) :=
  (strings_CutPrefix s_ ([45] : List UInt8)).bind fun y_1 =>
  (hCut y_1.1 ([46] : List UInt8)).bind fun y_2 =>
  (hRdDec y_2.1).bind fun y_3 =>
  ck (!(!(!y_3.2)) || (impl_in y_3.1 0 20).isSome) <|
  if (((!y_3.2) || (!((impl_in y_3.1 0 20).getD default))) || (!((y_2.2.1.length : Int) == 3))) then
    some (0, false)
  else
    (whileE (impl_ReadMag_l1 s_ y_1.2 y_2.2.1 ([100, 10, 1] : List Int) (([100, 10, 1] : List Int).length : Int)) ((IntKind.i64.wrap (y_3.1 * 1000)), 0)).bind fun y_9 =>
    if y_1.2 then
      (impl_MagText (IntKind.i64.wrap (0 - y_9))).bind fun y_11 =>
      if (!(y_11 == s_)) then
        some (0, false)
      else
        some ((IntKind.i64.wrap (0 - y_9)), true)
    else
      (impl_MagText y_9).bind fun y_13 =>
      if (!(y_13 == s_)) then
        some (0, false)
      else
        some (y_9, true)

noncomputable def impl_ReadEstimates_l1 (s_ : List UInt8) : ((List Estimate) × (List UInt8)) → Option (((List Estimate) × (List UInt8)) ⊕ ((List Estimate) ⊕ ((List Estimate) × Bool)))
  | (list, rest_) =>
    if (!(rest_ == ([] : List UInt8))) then
      (hCut rest_ ([10] : List UInt8)).bind fun y_2 =>
      (hSplit y_2.1 ([32] : List UInt8)).bind fun y_3 =>
      if ((!((y_3.length : Int) == 4)) || ((list.length : Int) == 100)) then
        some (.inr (.inr (([] : List Estimate), false)))
      else
        ck (ixOk 3 y_3.length) <|
        (strings_CutPrefix (y_3.getD 3 default) ([60] : List UInt8)).bind fun y_6 =>
        ck (ixOk 0 y_3.length) <|
        (hRdDec (y_3.getD 0 default)).bind fun y_8 =>
        (impl_ReadMag y_6.1).bind fun y_9 =>
        if ((!y_8.2) || (!y_9.2)) then
          some (.inr (.inr (([] : List Estimate), false)))
        else
          ck (ixOk 1 y_3.length) <|
          ck (ixOk 2 y_3.length) <|
          ck (appOk (list.length + ([(Estimate.mk y_8.1 (y_3.getD 1 default) (y_3.getD 2 default) y_9.1 y_6.2)] : List Estimate).length) 56) <|
          some (.inl ((list ++ ([(Estimate.mk y_8.1 (y_3.getD 1 default) (y_3.getD 2 default) y_9.1 y_6.2)] : List Estimate)), y_2.2.1))
    else
      some (.inr (.inl list))

/-- impl.ReadEstimates -/
noncomputable def impl_ReadEstimates (s_ : List UInt8) : Option ((List Estimate) × Bool) :=
  (whileE (impl_ReadEstimates_l1 s_) (([] : List Estimate), s_)).bind fun y_14 =>
  match y_14 with
  | .inl y_14a =>
    (impl_ValidEstimates y_14a).bind fun y_15 =>
    ck (!(!(!y_15)) || (impl_EstimatesText y_14a).isSome) <|
    if ((!y_15) || (!(((impl_EstimatesText y_14a).getD default) == s_))) then
      some (([] : List Estimate), false)
    else
      some (y_14a, true)
  | .inr y_14b =>
    some (y_14b.1, y_14b.2)

/-- impl.AddEstimate -/
noncomputable def impl_AddEstimate (list : List Estimate) (e_ : Estimate) : Option ((List Estimate) × Int) :=
  (impl_ValidEstimates list).bind fun y_1 =>
  if (!y_1) then
    some (([] : List Estimate), 1)
  else
    (impl_isEstimate e_).bind fun y_3 =>
    if (!y_3) then
      some (([] : List Estimate), 2)
    else
      (slices_BinarySearchFunc_impl_Estimate_impl_Estimate_impl_Estimate__impl_compareEstimates list e_).bind fun y_5 =>
      if y_5.2 then
        some (([] : List Estimate), 4)
      else
        if ((list.length : Int) == 100) then
          some (([] : List Estimate), 5)
        else
          (impl_copyOf_impl_Estimate list).bind fun y_8 =>
          (hIns 56 y_8 y_5.1 ([e_] : List Estimate)).bind fun y_9 =>
          some (y_9, 0)

/-- spec.l00In -/
noncomputable def spec_l00In (n : Int) (low : Int) (high : Int) : Option Bool :=
  some ((decide (low ≤ n)) && (decide (n ≤ high)))

/-- spec.l06Time -/
noncomputable def spec_l06Time (n : Int) : Option Bool :=
  (spec_l00In n 0 10000000).bind fun y_1 =>
  some y_1

/-- spec.l01Small -/
noncomputable def spec_l01Small (c : UInt8) : Option Bool :=
  some ((decide (97 ≤ (c.toNat : Int))) && (decide ((c.toNat : Int) ≤ 122)))

/-- spec.l01Digit -/
noncomputable def spec_l01Digit (c : UInt8) : Option Bool :=
  some ((decide (48 ≤ (c.toNat : Int))) && (decide ((c.toNat : Int) ≤ 57)))

noncomputable def spec_IsName_l1 (s_ : List UInt8) : Int → Option (Int ⊕ (Unit ⊕ Bool))
  | i =>
    if (decide (i < (s_.length : Int))) then
      ck (ixOk i s_.length) <|
      (spec_l01Small (s_.getD i.toNat 0)).bind fun y_6 =>
      ck (!(!y_6) || (spec_l01Digit (s_.getD i.toNat 0)).isSome) <|
      if (((!y_6) && (!((spec_l01Digit (s_.getD i.toNat 0)).getD default))) && (!(((s_.getD i.toNat 0).toNat : Int) == 45))) then
        some (.inr (.inr false))
      else
        some (.inl (IntKind.i64.wrap (i + 1)))
    else
      some (.inr (.inl ()))

/-- spec.IsName -/
noncomputable def spec_IsName (s_ : List UInt8) : Option Bool :=
  ck (!(!((s_ == ([] : List UInt8)) || (decide (12 < (s_.length : Int))))) || ixOk 0 s_.length) <|
  ck (!(!((s_ == ([] : List UInt8)) || (decide (12 < (s_.length : Int))))) || (spec_l01Small (s_.getD 0 0)).isSome) <|
  if (((s_ == ([] : List UInt8)) || (decide (12 < (s_.length : Int)))) || (!((spec_l01Small (s_.getD 0 0)).getD default))) then
    some false
  else
    (whileE (spec_IsName_l1 s_) 0).bind fun y_9 =>
    match y_9 with
    | .inl y_9a =>
      some true
    | .inr y_9b =>
      some y_9b

/-- spec.l02Mag -/
noncomputable def spec_l02Mag (m : Int) : Option Bool :=
  (spec_l00In m (-2000) 20000).bind fun y_1 =>
  some y_1

/-- spec.l06One -/
noncomputable def spec_l06One (e_ : Estimate) : Option Bool :=
  (spec_l06Time e_.Time).bind fun y_1 =>
  ck (!y_1 || (spec_IsName e_.Star).isSome) <|
  ck (!(y_1 && ((spec_IsName e_.Star).getD default)) || (spec_IsName e_.Observer).isSome) <|
  ck (!((y_1 && ((spec_IsName e_.Star).getD default)) && ((spec_IsName e_.Observer).getD default)) || (spec_l02Mag e_.Mag).isSome) <|
  some (((y_1 && ((spec_IsName e_.Star).getD default)) && ((spec_IsName e_.Observer).getD default)) && ((spec_l02Mag e_.Mag).getD default))

noncomputable def spec_l06Ok_l1 (list : List Estimate) : Int → Option (Int ⊕ (Unit ⊕ Bool))
  | i =>
    if (decide (i < (list.length : Int))) then
      ck (ixOk i list.length) <|
      (spec_l06One (list.getD i.toNat default)).bind fun y_3 =>
      ck (!((!(!y_3)) && (decide (0 < i))) || ixOk (IntKind.i64.wrap (i - 1)) list.length) <|
      ck (!((!(!y_3)) && (decide (0 < i))) || (spec_l06Before (list.getD (IntKind.i64.wrap (i - 1)).toNat default) (list.getD i.toNat default)).isSome) <|
      if ((!y_3) || ((decide (0 < i)) && (!((spec_l06Before (list.getD (IntKind.i64.wrap (i - 1)).toNat default) (list.getD i.toNat default)).getD default)))) then
        some (.inr (.inr false))
      else
        some (.inl (IntKind.i64.wrap (i + 1)))
    else
      some (.inr (.inl ()))

/-- spec.l06Ok -/
noncomputable def spec_l06Ok (list : List Estimate) : Option Bool :=
  (whileE (spec_l06Ok_l1 list) 0).bind fun y_7 =>
  match y_7 with
  | .inl y_7a =>
    some (decide ((list.length : Int) ≤ 100))
  | .inr y_7b =>
    some y_7b

/-- spec.ValidEstimates -/
noncomputable def spec_ValidEstimates (list : List Estimate) : Option Bool :=
  (spec_l06Ok list).bind fun y_1 =>
  some y_1

/-- laws.FnRecords -/
noncomputable def laws_FnRecords (code : List UInt8) (more : List UInt8) : Option Bool :=
  (laws_a2Long code more).bind fun y_1 =>
  if y_1 then
    some true
  else
    (spec_A2Estimates code).bind fun y_3 =>
    (spec_A2Estimate more).bind fun y_4 =>
    (impl_MergeEstimates y_3 y_3).bind fun y_5 =>
    ck (!(!(!(y_5.2 == 0))) || (spec_SameEstimates y_5.1 y_3).isSome) <|
    ck (!(!((!(y_5.2 == 0)) || (!((spec_SameEstimates y_5.1 y_3).getD default)))) || (impl_SameEstimates y_5.1 y_3).isSome) <|
    if (((!(y_5.2 == 0)) || (!((spec_SameEstimates y_5.1 y_3).getD default))) || (!((impl_SameEstimates y_5.1 y_3).getD default))) then
      some false
    else
      (impl_EstimatesText y_3).bind fun y_9 =>
      (impl_ReadEstimates y_9).bind fun y_10 =>
      ck (!(!(!y_10.2)) || (spec_SameEstimates y_10.1 y_3).isSome) <|
      if ((!y_10.2) || (!((spec_SameEstimates y_10.1 y_3).getD default))) then
        some false
      else
        (impl_AddEstimate y_3 y_4).bind fun y_13 =>
        if (!(y_13.2 == 0)) then
          some (y_13.2 == 4)
        else
          (impl_MergeEstimates y_3 ([y_4] : List Estimate)).bind fun y_15 =>
          (spec_ValidEstimates y_13.1).bind fun y_16 =>
          ck (!y_16 || (impl_ValidEstimates y_13.1).isSome) <|
          ck (!(((y_16 && ((impl_ValidEstimates y_13.1).getD default)) && ((y_13.1.length : Int) == (IntKind.i64.wrap ((y_3.length : Int) + 1)))) && (y_15.2 == 0)) || (spec_SameEstimates y_15.1 y_13.1).isSome) <|
          some ((((y_16 && ((impl_ValidEstimates y_13.1).getD default)) && ((y_13.1.length : Int) == (IntKind.i64.wrap ((y_3.length : Int) + 1)))) && (y_15.2 == 0)) && ((spec_SameEstimates y_15.1 y_13.1).getD default))

end Go.Proofs.YtpnomhinhcochaaGreatDoor
