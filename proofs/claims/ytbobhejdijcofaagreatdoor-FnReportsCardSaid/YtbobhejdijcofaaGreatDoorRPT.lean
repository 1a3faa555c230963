/- Typed forms of the functions that RP reaches. No condition. -/
import Derived.Test.YtbobhejdijcofaaGreatDoorEngSM
namespace Go.Proofs.YtbobhejdijcofaaGreatDoor
open Go Go.RowKit
set_option linter.unusedVariables false

structure Estimate where
  Time : Int
  Star : List UInt8
  Observer : List UInt8
  Mag : Int
  Fainter : Bool
  deriving Inhabited, DecidableEq
def Estimate_av (x : Estimate) : AV := .agg ([.int .i64 x.Time, .str x.Star, .str x.Observer, .int .i64 x.Mag, .bool x.Fainter])

structure L00Src where
  code_ : List UInt8
  at_ : Int
  seed_ : Int
  deriving Inhabited, DecidableEq
def L00Src_av (x : L00Src) : AV := .agg ([.sl 1 (List.map byteAV x.code_), .int .i64 x.at_, .int .u64 x.seed_])

structure Point where
  Time : Int
  Mag : Int
  deriving Inhabited, DecidableEq
def Point_av (x : Point) : AV := .agg ([.int .i64 x.Time, .int .i64 x.Mag])

attribute [go_sem] Estimate_av L00Src_av Point_av

noncomputable def laws_f6texts_l1 (a : List (List UInt8)) (b : List (List UInt8)) : Int → Option (Int ⊕ (Unit ⊕ Bool))
  | i =>
    if (decide (i < (a.length : Int))) then
      ck (ixOk i a.length) <|
      ck (ixOk i b.length) <|
      if (!((a.getD i.toNat default) == (b.getD i.toNat default))) then
        some (.inr (.inr false))
      else
        some (.inl (IntKind.i64.wrap (i + 1)))
    else
      some (.inr (.inl ()))

/-- laws.f6texts -/
noncomputable def laws_f6texts (a : List (List UInt8)) (b : List (List UInt8)) : Option Bool :=
  if (!((a.length : Int) == (b.length : Int))) then
    some false
  else
    (whileE (laws_f6texts_l1 a b) 0).bind fun y_6 =>
    match y_6 with
    | .inl y_6a =>
      some true
    | .inr y_6b =>
      some y_6b

/-- laws.f6big -/
noncomputable def laws_f6big (code : List UInt8) : Option Bool :=
  some (decide (4096 < (code.length : Int)))

/-- spec.l00From -/
noncomputable def spec_l00From (code : List UInt8) : Option L00Src :=
  some (L00Src.mk code 0 0)

/-- (*spec.l00Src).next -/
noncomputable def spec_l00Src_next (s_ : L00Src) : Option (Int × L00Src) :=
  if (decide (s_.at_ < (s_.code_.length : Int))) then
    ck (ixOk s_.at_ s_.code_.length) <|
    if (decide ((IntKind.i64.wrap (s_.at_ + 1)) ≤ (s_.code_.length : Int))) then
      some (((s_.code_.getD s_.at_.toNat default).toNat : Int), (L00Src.mk s_.code_ (IntKind.i64.wrap (s_.at_ + 1)) (IntKind.u64.wrap ((IntKind.u64.wrap ((IntKind.u64.wrap (s_.seed_ * 6364136223846793005)) + (IntKind.u64.wrap ((s_.code_.getD s_.at_.toNat default).toNat : Int)))) + 1442695040888963407))))
    else
      ck (shOk 40) <|
      some ((IntKind.i64.wrap (IntKind.u64.wrap (BitVec.ofInt (IntKind.bits .u64) ((IntKind.u64.wrap ((IntKind.u64.wrap ((IntKind.u64.wrap (s_.seed_ * 6364136223846793005)) + (IntKind.u64.wrap ((s_.code_.getD s_.at_.toNat default).toNat : Int)))) + 1442695040888963407)).fdiv (2 ^ (min 40 64))) &&& BitVec.ofInt (IntKind.bits .u64) 255).toNat)), (L00Src.mk s_.code_ (IntKind.i64.wrap (s_.at_ + 1)) (IntKind.u64.wrap ((IntKind.u64.wrap ((IntKind.u64.wrap (s_.seed_ * 6364136223846793005)) + (IntKind.u64.wrap ((s_.code_.getD s_.at_.toNat default).toNat : Int)))) + 1442695040888963407))))
  else
    if (decide ((IntKind.i64.wrap (s_.at_ + 1)) ≤ (s_.code_.length : Int))) then
      some (0, (L00Src.mk s_.code_ (IntKind.i64.wrap (s_.at_ + 1)) (IntKind.u64.wrap ((IntKind.u64.wrap ((IntKind.u64.wrap (s_.seed_ * 6364136223846793005)) + (IntKind.u64.wrap 0))) + 1442695040888963407))))
    else
      ck (shOk 40) <|
      some ((IntKind.i64.wrap (IntKind.u64.wrap (BitVec.ofInt (IntKind.bits .u64) ((IntKind.u64.wrap ((IntKind.u64.wrap ((IntKind.u64.wrap (s_.seed_ * 6364136223846793005)) + (IntKind.u64.wrap 0))) + 1442695040888963407)).fdiv (2 ^ (min 40 64))) &&& BitVec.ofInt (IntKind.bits .u64) 255).toNat)), (L00Src.mk s_.code_ (IntKind.i64.wrap (s_.at_ + 1)) (IntKind.u64.wrap ((IntKind.u64.wrap ((IntKind.u64.wrap (s_.seed_ * 6364136223846793005)) + (IntKind.u64.wrap 0))) + 1442695040888963407))))

/-- (*spec.l00Src).pick -/
noncomputable def spec_l00Src_pick (s_ : L00Src) (n : Int) : Option (Int × L00Src) :=
  if (decide (n ≤ 1)) then
    some (0, s_)
  else
    (spec_l00Src_next s_).bind fun y_2 =>
    if (decide (200 < n)) then
      (spec_l00Src_next y_2.2).bind fun y_4 =>
      ck (nz n) <|
      some (((IntKind.i64.wrap ((IntKind.i64.wrap (y_2.1 * 256)) + y_4.1)).tmod n), y_4.2)
    else
      ck (nz n) <|
      some ((y_2.1.tmod n), y_2.2)

/-- (*spec.l00Src).one -/
noncomputable def spec_l00Src_one (s_ : L00Src) (n : Int) : Option (Bool × L00Src) :=
  (spec_l00Src_pick s_ n).bind fun y_1 =>
  some ((y_1.1 == 0), y_1.2)

/-- (*spec.l00Src).text -/
noncomputable def spec_l00Src_text (s_ : L00Src) (list : List (List UInt8)) : Option ((List UInt8) × L00Src) :=
  (spec_l00Src_pick s_ (list.length : Int)).bind fun y_1 =>
  ck (ixOk y_1.1 list.length) <|
  some ((list.getD y_1.1.toNat default), y_1.2)

/-- spec.l06New -/
noncomputable def spec_l06New (s_ : L00Src) : Option (Estimate × L00Src) :=
  (spec_l00Src_pick s_ 30).bind fun y_1 =>
  (spec_l00Src_one y_1.2 2).bind fun y_2 =>
  if y_2.1 then
    (spec_l00Src_pick y_2.2 3000).bind fun y_4 =>
    (spec_l00Src_text y_4.2 ([([109, 105, 114, 97] : List UInt8), ([114, 114, 45, 108, 121, 114] : List UInt8), ([115, 115, 45, 99, 121, 103] : List UInt8)] : List (List UInt8))).bind fun y_5 =>
    (spec_l00Src_text y_5.2 ([([97, 98] : List UInt8), ([99, 100] : List UInt8), ([101] : List UInt8)] : List (List UInt8))).bind fun y_6 =>
    (spec_l00Src_pick y_6.2 60).bind fun y_7 =>
    (spec_l00Src_one y_7.2 5).bind fun y_8 =>
    some ((Estimate.mk (IntKind.i64.wrap ((IntKind.i64.wrap (1000 * y_1.1)) + y_4.1)) y_5.1 y_6.1 (IntKind.i64.wrap (8000 + (IntKind.i64.wrap (50 * y_7.1)))) y_8.1), y_8.2)
  else
    (spec_l00Src_text y_2.2 ([([109, 105, 114, 97] : List UInt8), ([114, 114, 45, 108, 121, 114] : List UInt8), ([115, 115, 45, 99, 121, 103] : List UInt8)] : List (List UInt8))).bind fun y_9 =>
    (spec_l00Src_text y_9.2 ([([97, 98] : List UInt8), ([99, 100] : List UInt8), ([101] : List UInt8)] : List (List UInt8))).bind fun y_10 =>
    (spec_l00Src_pick y_10.2 60).bind fun y_11 =>
    (spec_l00Src_one y_11.2 5).bind fun y_12 =>
    some ((Estimate.mk (IntKind.i64.wrap (1000 * y_1.1)) y_9.1 y_10.1 (IntKind.i64.wrap (8000 + (IntKind.i64.wrap (50 * y_11.1)))) y_12.1), y_12.2)

/-- spec.l06Before -/
noncomputable def spec_l06Before (a : Estimate) (b : Estimate) : Option Bool :=
  if (!(a.Time == b.Time)) then
    some (decide (a.Time < b.Time))
  else
    if (!(a.Star == b.Star)) then
      some (Op.bytesLess a.Star b.Star)
    else
      some (Op.bytesLess a.Observer b.Observer)

noncomputable def spec_l06Find_l1 (list : List Estimate) (e_ : Estimate) : Int → Option (Int ⊕ (Unit ⊕ Int))
  | i =>
    if (decide (i < (list.length : Int))) then
      ck (ixOk i list.length) <|
      (spec_l06Before (list.getD i.toNat default) e_).bind fun y_3 =>
      ck (!(!y_3) || (spec_l06Before e_ (list.getD i.toNat default)).isSome) <|
      if ((!y_3) && (!((spec_l06Before e_ (list.getD i.toNat default)).getD default))) then
        some (.inr (.inr i))
      else
        some (.inl (IntKind.i64.wrap (i + 1)))
    else
      some (.inr (.inl ()))

/-- spec.l06Find -/
noncomputable def spec_l06Find (list : List Estimate) (e_ : Estimate) : Option Int :=
  (whileE (spec_l06Find_l1 list e_) 0).bind fun y_6 =>
  match y_6 with
  | .inl y_6a =>
    some (-1)
  | .inr y_6b =>
    some y_6b

noncomputable def spec_l06Put_l1 (list : List Estimate) (e_ : Estimate) : Int → Option (Int ⊕ Int)
  | k =>
    ck (!(decide (0 < k)) || ixOk (IntKind.i64.wrap (k - 1)) list.length) <|
    ck (!(decide (0 < k)) || (spec_l06Before e_ (list.getD (IntKind.i64.wrap (k - 1)).toNat default)).isSome) <|
    if ((decide (0 < k)) && ((spec_l06Before e_ (list.getD (IntKind.i64.wrap (k - 1)).toNat default)).getD default)) then
      some (.inl (IntKind.i64.wrap (k - 1)))
    else
      some (.inr k)

/-- spec.l06Put -/
noncomputable def spec_l06Put (list : List Estimate) (e_ : Estimate) : Option (List Estimate) :=
  (whileE (spec_l06Put_l1 list e_) (list.length : Int)).bind fun y_4 =>
  ck (cutOk 0 y_4 list.length) <|
  ck (appOk (([] : List Estimate).length + (cut list 0 y_4).length) 56) <|
  ck (appOk ((([] : List Estimate) ++ (cut list 0 y_4)).length + ([e_] : List Estimate).length) 56) <|
  ck (cutOk y_4 (list.length : Int) list.length) <|
  ck (appOk (((([] : List Estimate) ++ (cut list 0 y_4)) ++ ([e_] : List Estimate)).length + (cut list y_4 (list.length : Int)).length) 56) <|
  some (((([] : List Estimate) ++ (cut list 0 y_4)) ++ ([e_] : List Estimate)) ++ (cut list y_4 (list.length : Int)))

noncomputable def spec_l06Draw_l1  : (L00Src × (List Estimate) × Int) → Option ((L00Src × (List Estimate) × Int) ⊕ (L00Src × (List Estimate)))
  | (s_, out, k) =>
    if (decide (0 < k)) then
      (spec_l06New s_).bind fun y_3 =>
      (spec_l06Find out y_3.1).bind fun y_4 =>
      if (decide (y_4 < 0)) then
        (spec_l06Put out y_3.1).bind fun y_6 =>
        some (.inl (y_3.2, y_6, (IntKind.i64.wrap (k - 1))))
      else
        some (.inl (y_3.2, out, (IntKind.i64.wrap (k - 1))))
    else
      some (.inr (s_, out))

/-- spec.l06Draw -/
noncomputable def spec_l06Draw (s_ : L00Src) (most : Int) : Option ((List Estimate) × L00Src) :=
  (spec_l00Src_pick s_ (IntKind.i64.wrap (most + 1))).bind fun y_1 =>
  (whileE (spec_l06Draw_l1) (y_1.2, ([] : List Estimate), y_1.1)).bind fun y_7 =>
  some (y_7.2, y_7.1)

/-- (*spec.l00Src).among -/
noncomputable def spec_l00Src_among (s_ : L00Src) (list : List Int) : Option (Int × L00Src) :=
  (spec_l00Src_pick s_ (list.length : Int)).bind fun y_1 =>
  ck (ixOk y_1.1 list.length) <|
  some ((list.getD y_1.1.toNat default), y_1.2)

/-- spec.l02Draw -/
noncomputable def spec_l02Draw (s_ : L00Src) : Option (Int × L00Src) :=
  (spec_l00Src_one s_ 8).bind fun y_1 =>
  if y_1.1 then
    (spec_l00Src_pick y_1.2 22001).bind fun y_3 =>
    some ((IntKind.i64.wrap (y_3.1 + (-2000))), y_3.2)
  else
    (spec_l00Src_pick y_1.2 60).bind fun y_4 =>
    some ((IntKind.i64.wrap (8000 + (IntKind.i64.wrap (50 * y_4.1)))), y_4.2)

/-- spec.l02Bent -/
noncomputable def spec_l02Bent (s_ : L00Src) : Option (Int × L00Src) :=
  (spec_l00Src_one s_ 14).bind fun y_1 =>
  if y_1.1 then
    (spec_l00Src_among y_1.2 ([(-2001), (-2000), 20000, 20001, (-9223372036854775808), 9223372036854775807] : List Int)).bind fun y_3 =>
    some (y_3.1, y_3.2)
  else
    (spec_l02Draw y_1.2).bind fun y_4 =>
    some (y_4.1, y_4.2)

/-- spec.l06BentOne -/
noncomputable def spec_l06BentOne (s_ : L00Src) : Option (Estimate × L00Src) :=
  (spec_l06New s_).bind fun y_1 =>
  (spec_l00Src_pick y_1.2 24).bind fun y_2 =>
  if (y_2.1 == 0) then
    (spec_l00Src_among y_2.2 ([(-1), 0, 10000000, 10000001] : List Int)).bind fun y_4 =>
    some ((Estimate.mk y_4.1 y_1.1.Star y_1.1.Observer y_1.1.Mag y_1.1.Fainter), y_4.2)
  else
    if (y_2.1 == 1) then
      (spec_l00Src_text y_2.2 ([([] : List UInt8), ([77, 105, 114, 97] : List UInt8), ([97, 32, 98] : List UInt8)] : List (List UInt8))).bind fun y_6 =>
      some ((Estimate.mk y_1.1.Time y_6.1 y_1.1.Observer y_1.1.Mag y_1.1.Fainter), y_6.2)
    else
      if (y_2.1 == 2) then
        (spec_l00Src_text y_2.2 ([([] : List UInt8), ([65, 66] : List UInt8)] : List (List UInt8))).bind fun y_8 =>
        some ((Estimate.mk y_1.1.Time y_1.1.Star y_8.1 y_1.1.Mag y_1.1.Fainter), y_8.2)
      else
        if (y_2.1 == 3) then
          (spec_l02Bent y_2.2).bind fun y_10 =>
          some ((Estimate.mk y_1.1.Time y_1.1.Star y_1.1.Observer y_10.1 y_1.1.Fainter), y_10.2)
        else
          some (y_1.1, y_2.2)

noncomputable def spec_l06Bent_l1 (s_ : L00Src) : ((List Estimate) × Int) → Option (((List Estimate) × Int) ⊕ (List Estimate))
  | (list, k) =>
    if (decide (0 < k)) then
      ck (appOk (list.length + ([(Estimate.mk (list.length : Int) ([109, 105, 114, 97] : List UInt8) ([97, 98] : List UInt8) 9000 false)] : List Estimate).length) 56) <|
      some (.inl ((list ++ ([(Estimate.mk (list.length : Int) ([109, 105, 114, 97] : List UInt8) ([97, 98] : List UInt8) 9000 false)] : List Estimate)), (IntKind.i64.wrap (k - 1))))
    else
      some (.inr list)

/-- spec.l06Bent -/
noncomputable def spec_l06Bent (s_ : L00Src) : Option ((List Estimate) × L00Src) :=
  (spec_l06Draw s_ 10).bind fun y_1 =>
  (spec_l00Src_pick y_1.2 20).bind fun y_2 =>
  if (y_2.1 == 0) then
    (spec_l06BentOne y_2.2).bind fun y_4 =>
    ck (appOk (y_1.1.length + ([y_4.1] : List Estimate).length) 56) <|
    some ((y_1.1 ++ ([y_4.1] : List Estimate)), y_4.2)
  else
    if (y_2.1 == 1) then
      (spec_l00Src_pick y_2.2 2).bind fun y_7 =>
      (whileE (spec_l06Bent_l1 y_7.2) (([] : List Estimate), (IntKind.i64.wrap (100 + y_7.1)))).bind fun y_10 =>
      some (y_10, y_7.2)
    else
      if (y_2.1 == 2) then
        if (decide (0 < (y_1.1.length : Int))) then
          (spec_l00Src_pick y_2.2 (y_1.1.length : Int)).bind fun y_13 =>
          (spec_l06BentOne y_13.2).bind fun y_14 =>
          ck (ixOk y_13.1 y_1.1.length) <|
          some ((y_1.1.set y_13.1.toNat y_14.1), y_14.2)
        else
          some (y_1.1, y_2.2)
      else
        some (y_1.1, y_2.2)

/-- spec.DrawReportRows -/
noncomputable def spec_DrawReportRows (code : List UInt8) : Option (List Estimate) :=
  (spec_l00From code).bind fun y_1 =>
  (spec_l06Bent y_1).bind fun y_2 =>
  some y_2.1

/-- impl.in -/
noncomputable def impl_in (n : Int) (low : Int) (high : Int) : Option Bool :=
  some ((decide (low ≤ n)) && (decide (n ≤ high)))

/-- impl.ValidTime -/
noncomputable def impl_ValidTime (t : Int) : Option Bool :=
  (impl_in t 0 10000000).bind fun y_1 =>
  some y_1

noncomputable def impl_IsName_l1 (s_ : List UInt8) (t15 : Int) : Int → Option (Int ⊕ (Unit ⊕ Bool))
  | t16 =>
    if (decide (t16 < t15)) then
      ck (ixOk t16 s_.length) <|
      if ((!((decide (97 ≤ ((s_.getD t16.toNat 0).toNat : Int))) && (decide (((s_.getD t16.toNat 0).toNat : Int) ≤ 122)))) && ((t16 == 0) || (!(((decide (48 ≤ ((s_.getD t16.toNat 0).toNat : Int))) && (decide (((s_.getD t16.toNat 0).toNat : Int) ≤ 57))) || (((s_.getD t16.toNat 0).toNat : Int) == 45))))) then
        some (.inr (.inr false))
      else
        some (.inl (IntKind.i64.wrap (t16 + 1)))
    else
      some (.inr (.inl ()))

/-- impl.IsName -/
noncomputable def impl_IsName (s_ : List UInt8) : Option Bool :=
  if ((decide ((s_.length : Int) < 1)) || (decide (12 < (s_.length : Int)))) then
    some false
  else
    (whileE (impl_IsName_l1 s_ (s_.length : Int)) 0).bind fun y_5 =>
    match y_5 with
    | .inl y_5a =>
      some true
    | .inr y_5b =>
      some y_5b

/-- impl.ValidMag -/
noncomputable def impl_ValidMag (m : Int) : Option Bool :=
  (impl_in m (-2000) 20000).bind fun y_1 =>
  some y_1

/-- impl.isEstimate -/
noncomputable def impl_isEstimate (e_ : Estimate) : Option Bool :=
  (impl_ValidTime e_.Time).bind fun y_1 =>
  ck (!y_1 || (impl_IsName e_.Star).isSome) <|
  ck (!(y_1 && ((impl_IsName e_.Star).getD default)) || (impl_IsName e_.Observer).isSome) <|
  ck (!((y_1 && ((impl_IsName e_.Star).getD default)) && ((impl_IsName e_.Observer).getD default)) || (impl_ValidMag e_.Mag).isSome) <|
  some (((y_1 && ((impl_IsName e_.Star).getD default)) && ((impl_IsName e_.Observer).getD default)) && ((impl_ValidMag e_.Mag).getD default))

/-- cmp.isNaN[int64] -/
noncomputable def cmp_isNaN_int64 (x : Int) : Option Bool :=
  some (!(x == x))

/-- cmp.Compare[int64] -/
noncomputable def cmp_Compare_int64 (x : Int) (y : Int) : Option Int :=
  (cmp_isNaN_int64 x).bind fun y_1 =>
  (cmp_isNaN_int64 y).bind fun y_2 =>
  if y_1 then
    if y_2 then
      some 0
    else
      some (-1)
  else
    if y_2 then
      some 1
    else
      if (decide (x < y)) then
        some (-1)
      else
        if (decide (y < x)) then
          some 1
        else
          some 0


/-- internal/bytealg.CompareString -/
noncomputable def internal_bytealg_CompareString (a : List UInt8) (b : List UInt8) : Option Int :=
  (hCmp a b).bind fun y_1 =>
  some y_1

/-- strings.Compare -/
noncomputable def strings_Compare (a : List UInt8) (b : List UInt8) : Option Int :=
  (internal_bytealg_CompareString a b).bind fun y_1 =>
  some y_1

noncomputable def cmp_Or_int_l1 (zero : Int) (t6 : List Int) (t7 : Int) : Int → Option (Int ⊕ (Unit ⊕ Int))
  | t8 =>
    if (decide (t8 < t7)) then
      ck (ixOk t8 t6.length) <|
      if (!((t6.getD t8.toNat default) == zero)) then
        some (.inr (.inr (t6.getD t8.toNat default)))
      else
        some (.inl (IntKind.i64.wrap (t8 + 1)))
    else
      some (.inr (.inl ()))

/-- cmp.Or[int] -/
noncomputable def cmp_Or_int (vals : List Int) : Option Int :=
  (whileE (cmp_Or_int_l1 0 vals (vals.length : Int)) 0).bind fun y_4 =>
  match y_4 with
  | .inl y_4a =>
    some 0
  | .inr y_4b =>
    some y_4b

/-- impl.compareEstimates -/
noncomputable def impl_compareEstimates (a : Estimate) (b : Estimate) : Option Int :=
  (cmp_Compare_int64 a.Time b.Time).bind fun y_1 =>
  (strings_Compare a.Star b.Star).bind fun y_2 =>
  (strings_Compare a.Observer b.Observer).bind fun y_3 =>
  (cmp_Or_int ([y_1, y_2, y_3] : List Int)).bind fun y_4 =>
  some y_4

noncomputable def impl_ValidEstimates_l1 (list : List Estimate) (t8 : List Estimate) (t9 : Int) : Int → Option (Int ⊕ (Unit ⊕ Bool))
  | t10 =>
    if (decide (t10 < t9)) then
      ck (ixOk t10 t8.length) <|
      (impl_isEstimate (t8.getD t10.toNat default)).bind fun y_4 =>
      ck (!((!(!y_4)) && (decide (0 < t10))) || ixOk (IntKind.i64.wrap (t10 - 1)) list.length) <|
      ck (!((!(!y_4)) && (decide (0 < t10))) || (impl_compareEstimates (list.getD (IntKind.i64.wrap (t10 - 1)).toNat default) (t8.getD t10.toNat default)).isSome) <|
      if ((!y_4) || ((decide (0 < t10)) && (decide (0 ≤ ((impl_compareEstimates (list.getD (IntKind.i64.wrap (t10 - 1)).toNat default) (t8.getD t10.toNat default)).getD default))))) then
        some (.inr (.inr false))
      else
        some (.inl (IntKind.i64.wrap (t10 + 1)))
    else
      some (.inr (.inl ()))

/-- impl.ValidEstimates -/
noncomputable def impl_ValidEstimates (list : List Estimate) : Option Bool :=
  if (decide (100 < (list.length : Int))) then
    some false
  else
    (whileE (impl_ValidEstimates_l1 list list (list.length : Int)) 0).bind fun y_8 =>
    match y_8 with
    | .inl y_8a =>
      some true
    | .inr y_8b =>
      some y_8b

/-- impl.starOf -/
noncomputable def impl_starOf (e_ : Estimate) : Option (List UInt8) :=
  some e_.Star



noncomputable def impl_namesOf__impl_starOf_l1 (t9 : List Estimate) (t10 : Int) : ((List (List UInt8)) × Int) → Option (((List (List UInt8)) × Int) ⊕ (List (List UInt8)))
  | (out, t11) =>
    if (decide (t11 < t10)) then
      ck (ixOk t11 t9.length) <|
      (impl_starOf (t9.getD t11.toNat default)).bind fun y_3 =>
      ck (appOk (out.length + ([y_3] : List (List UInt8)).length) 16) <|
      some (.inl ((out ++ ([y_3] : List (List UInt8))), (IntKind.i64.wrap (t11 + 1))))
    else
      some (.inr out)

/-- impl.namesOf -/
noncomputable def impl_namesOf__impl_starOf (list : List Estimate) : Option (List (List UInt8)) :=
  (whileE (impl_namesOf__impl_starOf_l1 list (list.length : Int)) (([] : List (List UInt8)), 0)).bind fun y_5 =>
  (hSort y_5).bind fun y_6 =>
  (hCompact y_6).bind fun y_7 =>
  some y_7

/-- impl.StarsIn -/
noncomputable def impl_StarsIn (list : List Estimate) : Option ((List (List UInt8)) × Int) :=
  (impl_ValidEstimates list).bind fun y_1 =>
  if (!y_1) then
    some (([] : List (List UInt8)), 1)
  else
    (impl_namesOf__impl_starOf list).bind fun y_3 =>
    some (y_3, 0)

/-- impl.count[impl.Estimate] -/
noncomputable def impl_count_impl_Estimate (list : List Estimate) : Option Int :=
  some (list.length : Int)


/-- strconv.FormatInt -/
noncomputable def strconv_FormatInt (i : Int) (base : Int) : Option (List UInt8) :=
  (hFmt i base).bind fun y_1 =>
  some y_1

/-- impl.Decimal -/
noncomputable def impl_Decimal (n : Int) : Option (List UInt8) :=
  (strconv_FormatInt n 10).bind fun y_1 =>
  some y_1

/-- impl.abs -/
noncomputable def impl_abs (n : Int) : Option Int :=
  if (decide (n < 0)) then
    some (IntKind.i64.wrap (0 - n))
  else
    some n

noncomputable def impl_padded_l1 (digits : Int) : (List UInt8) → Option ((List UInt8) ⊕ (List UInt8))
  | s_ =>
    if (decide ((s_.length : Int) < digits)) then
      ck (catOk ([48] : List UInt8).length s_.length) <|
      some (.inl (([48] : List UInt8) ++ s_))
    else
      some (.inr s_)

/-- impl.padded -/
noncomputable def impl_padded (n : Int) (digits : Int) : Option (List UInt8) :=
  (impl_Decimal n).bind fun y_1 =>
  (whileE (impl_padded_l1 digits) y_1).bind fun y_4 =>
  some y_4

/-- impl.MagText -/
noncomputable def impl_MagText (m : Int) : Option (List UInt8) :=
  (impl_ValidMag m).bind fun y_1 =>
  if (!y_1) then
    some ([] : List UInt8)
  else
    if (decide (m < 0)) then
      (impl_abs m).bind fun y_4 =>
      ck (nz 1000) <|
      (impl_Decimal (IntKind.i64.wrap (y_4.tdiv 1000))).bind fun y_6 =>
      ck (catOk ([45] : List UInt8).length y_6.length) <|
      ck (catOk (([45] : List UInt8) ++ y_6).length ([46] : List UInt8).length) <|
      (impl_padded (y_4.tmod 1000) 3).bind fun y_9 =>
      ck (catOk ((([45] : List UInt8) ++ y_6) ++ ([46] : List UInt8)).length y_9.length) <|
      some (((([45] : List UInt8) ++ y_6) ++ ([46] : List UInt8)) ++ y_9)
    else
      (impl_abs m).bind fun y_11 =>
      ck (nz 1000) <|
      (impl_Decimal (IntKind.i64.wrap (y_11.tdiv 1000))).bind fun y_13 =>
      ck (catOk ([] : List UInt8).length y_13.length) <|
      ck (catOk (([] : List UInt8) ++ y_13).length ([46] : List UInt8).length) <|
      (impl_padded (y_11.tmod 1000) 3).bind fun y_16 =>
      ck (catOk ((([] : List UInt8) ++ y_13) ++ ([46] : List UInt8)).length y_16.length) <|
      some (((([] : List UInt8) ++ y_13) ++ ([46] : List UInt8)) ++ y_16)

/-- impl.starRow$1 -/
noncomputable def impl_starRow_c1 (e_ : Estimate) (t1 : List UInt8) : Option Bool :=
  some (e_.Star == t1)

noncomputable def impl_chosen_impl_Estimate__impl_starRow_c1_l1 (c : List UInt8) (t9 : List Estimate) (t10 : Int) : ((List Estimate) × Int) → Option (((List Estimate) × Int) ⊕ (List Estimate))
  | (out, t11) =>
    if (decide (t11 < t10)) then
      ck (ixOk t11 t9.length) <|
      (impl_starRow_c1 (t9.getD t11.toNat default) c).bind fun y_3 =>
      if y_3 then
        ck (appOk (out.length + ([(t9.getD t11.toNat default)] : List Estimate).length) 56) <|
        some (.inl ((out ++ ([(t9.getD t11.toNat default)] : List Estimate)), (IntKind.i64.wrap (t11 + 1))))
      else
        some (.inl (out, (IntKind.i64.wrap (t11 + 1))))
    else
      some (.inr out)

/-- impl.chosen[impl.Estimate] -/
noncomputable def impl_chosen_impl_Estimate__impl_starRow_c1 (list : List Estimate) (wanted_c0 : List UInt8) : Option (List Estimate) :=
  (whileE (impl_chosen_impl_Estimate__impl_starRow_c1_l1 wanted_c0 list (list.length : Int)) (([] : List Estimate), 0)).bind fun y_6 =>
  some y_6

/-- impl.allIn$1 -/
noncomputable def impl_allIn_c1 (n : Int) (t1 : Int) (t2 : Int) : Option Bool :=
  (impl_in n t1 t2).bind fun y_1 =>
  some (!y_1)

noncomputable def slices_IndexFunc_int64_int64__impl_allIn_c1_l1 (s_ : List Int) (c : Int) (c2 : Int) (t7 : Int) : Int → Option (Int ⊕ (Unit ⊕ Int))
  | t8 =>
    if (decide (t8 < t7)) then
      ck (ixOk t8 s_.length) <|
      (impl_allIn_c1 (s_.getD t8.toNat default) c c2).bind fun y_3 =>
      if y_3 then
        some (.inr (.inr t8))
      else
        some (.inl (IntKind.i64.wrap (t8 + 1)))
    else
      some (.inr (.inl ()))

/-- slices.IndexFunc[[]int64,int64] -/
noncomputable def slices_IndexFunc_int64_int64__impl_allIn_c1 (s_ : List Int) (f_c0 : Int) (f_c1 : Int) : Option Int :=
  (whileE (slices_IndexFunc_int64_int64__impl_allIn_c1_l1 s_ f_c0 f_c1 (s_.length : Int)) 0).bind fun y_5 =>
  match y_5 with
  | .inl y_5a =>
    some (-1)
  | .inr y_5b =>
    some y_5b

/-- slices.ContainsFunc[[]int64,int64] -/
noncomputable def slices_ContainsFunc_int64_int64__impl_allIn_c1 (s_ : List Int) (f_c0 : Int) (f_c1 : Int) : Option Bool :=
  (slices_IndexFunc_int64_int64__impl_allIn_c1 s_ f_c0 f_c1).bind fun y_1 =>
  some (decide (0 ≤ y_1))

/-- impl.allIn -/
noncomputable def impl_allIn (list : List Int) (low : Int) (high : Int) : Option Bool :=
  (slices_ContainsFunc_int64_int64__impl_allIn_c1 list low high).bind fun y_1 =>
  some (!y_1)

/-- impl.areMags -/
noncomputable def impl_areMags (list : List Int) : Option Bool :=
  ck (!(decide ((list.length : Int) ≤ 100)) || (impl_allIn list (-2000) 20000).isSome) <|
  some ((decide ((list.length : Int) ≤ 100)) && ((impl_allIn list (-2000) 20000).getD default))

/-- impl.someMags -/
noncomputable def impl_someMags (list : List Int) : Option Int :=
  (impl_areMags list).bind fun y_1 =>
  if (!y_1) then
    some 2
  else
    if ((list.length : Int) == 0) then
      some 3
    else
      some 0



/-- impl.RangeOfMags -/
noncomputable def impl_RangeOfMags (list : List Int) : Option (Int × Int × Int) :=
  (impl_someMags list).bind fun y_1 =>
  if (!(y_1 == 0)) then
    some (0, 0, y_1)
  else
    (hMinI list).bind fun y_3 =>
    (hMaxI list).bind fun y_4 =>
    some (y_3, y_4, 0)

noncomputable def impl_starRow_l1 (star : List UInt8) (own : List Estimate) (t17 : Int) : ((List Int) × Int) → Option (((List Int) × Int) ⊕ (List Int))
  | (mags, t18) =>
    if (decide (t18 < t17)) then
      ck (ixOk t18 own.length) <|
      if (!((own.getD t18.toNat default).Fainter)) then
        ck (appOk (mags.length + ([(own.getD t18.toNat default).Mag] : List Int).length) 8) <|
        some (.inl ((mags ++ ([(own.getD t18.toNat default).Mag] : List Int)), (IntKind.i64.wrap (t18 + 1))))
      else
        some (.inl (mags, (IntKind.i64.wrap (t18 + 1))))
    else
      some (.inr mags)

/-- impl.starRow -/
noncomputable def impl_starRow (list : List Estimate) (star : List UInt8) : Option (List (List UInt8)) :=
  (impl_chosen_impl_Estimate__impl_starRow_c1 list star).bind fun y_1 =>
  (whileE (impl_starRow_l1 star y_1 (y_1.length : Int)) (([] : List Int), 0)).bind fun y_6 =>
  (impl_RangeOfMags y_6).bind fun y_7 =>
  if (!(y_7.2.2 == 0)) then
    (impl_count_impl_Estimate y_1).bind fun y_9 =>
    (impl_Decimal y_9).bind fun y_10 =>
    some ([star, y_10, ([45] : List UInt8), ([45] : List UInt8)] : List (List UInt8))
  else
    (impl_count_impl_Estimate y_1).bind fun y_11 =>
    (impl_Decimal y_11).bind fun y_12 =>
    (impl_MagText y_7.1).bind fun y_13 =>
    (impl_MagText y_7.2.1).bind fun y_14 =>
    some ([star, y_12, y_13, y_14] : List (List UInt8))

noncomputable def impl_ReportRows_l1 (list : List Estimate) (t18 : List (List UInt8)) (t19 : Int) : ((List (List (List UInt8))) × Int) → Option (((List (List (List UInt8))) × Int) ⊕ (List (List (List UInt8))))
  | (rows, t20) =>
    if (decide (t20 < t19)) then
      ck (ixOk t20 t18.length) <|
      (impl_starRow list (t18.getD t20.toNat default)).bind fun y_5 =>
      ck (appOk (rows.length + ([y_5] : List (List (List UInt8))).length) 24) <|
      some (.inl ((rows ++ ([y_5] : List (List (List UInt8)))), (IntKind.i64.wrap (t20 + 1))))
    else
      some (.inr rows)

/-- impl.ReportRows -/
noncomputable def impl_ReportRows (list : List Estimate) : Option ((List (List (List UInt8))) × Int) :=
  (impl_StarsIn list).bind fun y_1 =>
  if (!(y_1.2 == 0)) then
    some (([] : List (List (List UInt8))), y_1.2)
  else
    (whileE (impl_ReportRows_l1 list y_1.1 (y_1.1.length : Int)) (([] : List (List (List UInt8))), 0)).bind fun y_7 =>
    some (y_7, 0)

/-- spec.l00In -/
noncomputable def spec_l00In (n : Int) (low : Int) (high : Int) : Option Bool :=
  some ((decide (low ≤ n)) && (decide (n ≤ high)))

/-- spec.l06Time -/
noncomputable def spec_l06Time (n : Int) : Option Bool :=
  (spec_l00In n 0 10000000).bind fun y_1 =>
  some y_1

/-- spec.l01Small -/
noncomputable def spec_l01Small (c : UInt8) : Option Bool :=
  some ((decide (97 ≤ (c.toNat : Int))) && (decide ((c.toNat : Int) ≤ 122)))

/-- spec.l01Digit -/
noncomputable def spec_l01Digit (c : UInt8) : Option Bool :=
  some ((decide (48 ≤ (c.toNat : Int))) && (decide ((c.toNat : Int) ≤ 57)))

noncomputable def spec_IsName_l1 (s_ : List UInt8) : Int → Option (Int ⊕ (Unit ⊕ Bool))
  | i =>
    if (decide (i < (s_.length : Int))) then
      ck (ixOk i s_.length) <|
      (spec_l01Small (s_.getD i.toNat 0)).bind fun y_6 =>
      ck (!(!y_6) || (spec_l01Digit (s_.getD i.toNat 0)).isSome) <|
      if (((!y_6) && (!((spec_l01Digit (s_.getD i.toNat 0)).getD default))) && (!(((s_.getD i.toNat 0).toNat : Int) == 45))) then
        some (.inr (.inr false))
      else
        some (.inl (IntKind.i64.wrap (i + 1)))
    else
      some (.inr (.inl ()))

/-- spec.IsName -/
noncomputable def spec_IsName (s_ : List UInt8) : Option Bool :=
  ck (!(!((s_ == ([] : List UInt8)) || (decide (12 < (s_.length : Int))))) || ixOk 0 s_.length) <|
  ck (!(!((s_ == ([] : List UInt8)) || (decide (12 < (s_.length : Int))))) || (spec_l01Small (s_.getD 0 0)).isSome) <|
  if (((s_ == ([] : List UInt8)) || (decide (12 < (s_.length : Int)))) || (!((spec_l01Small (s_.getD 0 0)).getD default))) then
    some false
  else
    (whileE (spec_IsName_l1 s_) 0).bind fun y_9 =>
    match y_9 with
    | .inl y_9a =>
      some true
    | .inr y_9b =>
      some y_9b

/-- spec.l02Mag -/
noncomputable def spec_l02Mag (m : Int) : Option Bool :=
  (spec_l00In m (-2000) 20000).bind fun y_1 =>
  some y_1

/-- spec.l06One -/
noncomputable def spec_l06One (e_ : Estimate) : Option Bool :=
  (spec_l06Time e_.Time).bind fun y_1 =>
  ck (!y_1 || (spec_IsName e_.Star).isSome) <|
  ck (!(y_1 && ((spec_IsName e_.Star).getD default)) || (spec_IsName e_.Observer).isSome) <|
  ck (!((y_1 && ((spec_IsName e_.Star).getD default)) && ((spec_IsName e_.Observer).getD default)) || (spec_l02Mag e_.Mag).isSome) <|
  some (((y_1 && ((spec_IsName e_.Star).getD default)) && ((spec_IsName e_.Observer).getD default)) && ((spec_l02Mag e_.Mag).getD default))

noncomputable def spec_l06Ok_l1 (list : List Estimate) : Int → Option (Int ⊕ (Unit ⊕ Bool))
  | i =>
    if (decide (i < (list.length : Int))) then
      ck (ixOk i list.length) <|
      (spec_l06One (list.getD i.toNat default)).bind fun y_3 =>
      ck (!((!(!y_3)) && (decide (0 < i))) || ixOk (IntKind.i64.wrap (i - 1)) list.length) <|
      ck (!((!(!y_3)) && (decide (0 < i))) || (spec_l06Before (list.getD (IntKind.i64.wrap (i - 1)).toNat default) (list.getD i.toNat default)).isSome) <|
      if ((!y_3) || ((decide (0 < i)) && (!((spec_l06Before (list.getD (IntKind.i64.wrap (i - 1)).toNat default) (list.getD i.toNat default)).getD default)))) then
        some (.inr (.inr false))
      else
        some (.inl (IntKind.i64.wrap (i + 1)))
    else
      some (.inr (.inl ()))

/-- spec.l06Ok -/
noncomputable def spec_l06Ok (list : List Estimate) : Option Bool :=
  (whileE (spec_l06Ok_l1 list) 0).bind fun y_7 =>
  match y_7 with
  | .inl y_7a =>
    some (decide ((list.length : Int) ≤ 100))
  | .inr y_7b =>
    some y_7b

noncomputable def spec_l06PutName_l1 (list : List (List UInt8)) (name : List UInt8) : Int → Option (Int ⊕ Int)
  | k =>
    ck (!(decide (0 < k)) || ixOk (IntKind.i64.wrap (k - 1)) list.length) <|
    if ((decide (0 < k)) && (!(Op.bytesLess (list.getD (IntKind.i64.wrap (k - 1)).toNat default) name || (list.getD (IntKind.i64.wrap (k - 1)).toNat default) == name))) then
      some (.inl (IntKind.i64.wrap (k - 1)))
    else
      some (.inr k)

/-- spec.l06PutName -/
noncomputable def spec_l06PutName (list : List (List UInt8)) (name : List UInt8) : Option (List (List UInt8)) :=
  (whileE (spec_l06PutName_l1 list name) (list.length : Int)).bind fun y_3 =>
  ck (!(decide (0 < y_3)) || ixOk (IntKind.i64.wrap (y_3 - 1)) list.length) <|
  if ((decide (0 < y_3)) && ((list.getD (IntKind.i64.wrap (y_3 - 1)).toNat default) == name)) then
    some list
  else
    ck (cutOk 0 y_3 list.length) <|
    ck (appOk (([] : List (List UInt8)).length + (cut list 0 y_3).length) 16) <|
    ck (appOk ((([] : List (List UInt8)) ++ (cut list 0 y_3)).length + ([name] : List (List UInt8)).length) 16) <|
    ck (cutOk y_3 (list.length : Int) list.length) <|
    ck (appOk (((([] : List (List UInt8)) ++ (cut list 0 y_3)) ++ ([name] : List (List UInt8))).length + (cut list y_3 (list.length : Int)).length) 16) <|
    some (((([] : List (List UInt8)) ++ (cut list 0 y_3)) ++ ([name] : List (List UInt8))) ++ (cut list y_3 (list.length : Int)))

noncomputable def spec_StarsIn_l1 (list : List Estimate) : ((List (List UInt8)) × Int) → Option (((List (List UInt8)) × Int) ⊕ (List (List UInt8)))
  | (out, i) =>
    if (decide (i < (list.length : Int))) then
      ck (ixOk i list.length) <|
      (spec_l06PutName out ((list.getD i.toNat default).Star)).bind fun y_5 =>
      some (.inl (y_5, (IntKind.i64.wrap (i + 1))))
    else
      some (.inr out)

/-- spec.StarsIn -/
noncomputable def spec_StarsIn (list : List Estimate) : Option ((List (List UInt8)) × Int) :=
  (spec_l06Ok list).bind fun y_1 =>
  if (!y_1) then
    some (([] : List (List UInt8)), 1)
  else
    (whileE (spec_StarsIn_l1 list) (([] : List (List UInt8)), 0)).bind fun y_6 =>
    some (y_6, 0)

noncomputable def spec_l01Dec_l1 (n : Int) : ((List UInt8) × Int) → Option (((List UInt8) × Int) ⊕ (List UInt8))
  | (out, k) =>
    if (!(k == 0)) then
      ck (nz 10) <|
      if (decide ((k.tmod 10) < 0)) then
        ck (appOk (([(toU8 (IntKind.u8.wrap (IntKind.i64.wrap (48 + (IntKind.i64.wrap (0 - (k.tmod 10)))))))] : List UInt8).length + out.length) 1) <|
        some (.inl ((([(toU8 (IntKind.u8.wrap (IntKind.i64.wrap (48 + (IntKind.i64.wrap (0 - (k.tmod 10)))))))] : List UInt8) ++ out), (IntKind.i64.wrap (k.tdiv 10))))
      else
        ck (appOk (([(toU8 (IntKind.u8.wrap (IntKind.i64.wrap (48 + (k.tmod 10)))))] : List UInt8).length + out.length) 1) <|
        some (.inl ((([(toU8 (IntKind.u8.wrap (IntKind.i64.wrap (48 + (k.tmod 10)))))] : List UInt8) ++ out), (IntKind.i64.wrap (k.tdiv 10))))
    else
      some (.inr out)

/-- spec.l01Dec -/
noncomputable def spec_l01Dec (n : Int) : Option (List UInt8) :=
  (whileE (spec_l01Dec_l1 n) (([] : List UInt8), n)).bind fun y_6 =>
  if ((y_6.length : Int) == 0) then
    some ([48] : List UInt8)
  else
    if (decide (n < 0)) then
      ck (catOk ([45] : List UInt8).length y_6.length) <|
      some (([45] : List UInt8) ++ y_6)
    else
      some y_6

/-- spec.l00Min -/
noncomputable def spec_l00Min (a : Int) (b : Int) : Option Int :=
  if (decide (a < b)) then
    some a
  else
    some b

/-- spec.l00Max -/
noncomputable def spec_l00Max (a : Int) (b : Int) : Option Int :=
  if (decide (b < a)) then
    some a
  else
    some b

/-- spec.l02Three -/
noncomputable def spec_l02Three (n : Int) : Option (List UInt8) :=
  ck (nz 100) <|
  (spec_l01Dec (IntKind.i64.wrap (n.tdiv 100))).bind fun y_2 =>
  ck (nz 10) <|
  (spec_l01Dec ((IntKind.i64.wrap (n.tdiv 10)).tmod 10)).bind fun y_4 =>
  ck (catOk y_2.length y_4.length) <|
  (spec_l01Dec (n.tmod 10)).bind fun y_6 =>
  ck (catOk (y_2 ++ y_4).length y_6.length) <|
  some ((y_2 ++ y_4) ++ y_6)

/-- spec.l02Text -/
noncomputable def spec_l02Text (m : Int) : Option (List UInt8) :=
  if (decide (m < 0)) then
    ck (nz 1000) <|
    (spec_l01Dec (IntKind.i64.wrap ((IntKind.i64.wrap (0 - m)).tdiv 1000))).bind fun y_3 =>
    ck (catOk ([45] : List UInt8).length y_3.length) <|
    ck (catOk (([45] : List UInt8) ++ y_3).length ([46] : List UInt8).length) <|
    (spec_l02Three ((IntKind.i64.wrap (0 - m)).tmod 1000)).bind fun y_6 =>
    ck (catOk ((([45] : List UInt8) ++ y_3) ++ ([46] : List UInt8)).length y_6.length) <|
    some (((([45] : List UInt8) ++ y_3) ++ ([46] : List UInt8)) ++ y_6)
  else
    ck (nz 1000) <|
    (spec_l01Dec (IntKind.i64.wrap (m.tdiv 1000))).bind fun y_9 =>
    ck (catOk ([] : List UInt8).length y_9.length) <|
    ck (catOk (([] : List UInt8) ++ y_9).length ([46] : List UInt8).length) <|
    (spec_l02Three (m.tmod 1000)).bind fun y_12 =>
    ck (catOk ((([] : List UInt8) ++ y_9) ++ ([46] : List UInt8)).length y_12.length) <|
    some (((([] : List UInt8) ++ y_9) ++ ([46] : List UInt8)) ++ y_12)

noncomputable def spec_l24Star_l1 (list : List Estimate) (star : List UInt8) : (Int × (List Int) × Int) → Option ((Int × (List Int) × Int) ⊕ (Int × (List Int)))
  | (count, mags, i) =>
    if (decide (i < (list.length : Int))) then
      ck (ixOk i list.length) <|
      if (((list.getD i.toNat default).Star) == star) then
        if (!((list.getD i.toNat default).Fainter)) then
          ck (appOk (mags.length + ([(list.getD i.toNat default).Mag] : List Int).length) 8) <|
          some (.inl ((IntKind.i64.wrap (count + 1)), (mags ++ ([(list.getD i.toNat default).Mag] : List Int)), (IntKind.i64.wrap (i + 1))))
        else
          some (.inl ((IntKind.i64.wrap (count + 1)), mags, (IntKind.i64.wrap (i + 1))))
      else
        some (.inl (count, mags, (IntKind.i64.wrap (i + 1))))
    else
      some (.inr (count, mags))

noncomputable def spec_l24Star_l2 (star : List UInt8) (count : Int) (mags : List Int) : (Int × Int × Int) → Option ((Int × Int × Int) ⊕ (Int × Int))
  | (least, most, i) =>
    if (decide (i < (mags.length : Int))) then
      ck (ixOk i mags.length) <|
      (spec_l00Min least (mags.getD i.toNat default)).bind fun y_12 =>
      (spec_l00Max most (mags.getD i.toNat default)).bind fun y_13 =>
      some (.inl (y_12, y_13, (IntKind.i64.wrap (i + 1))))
    else
      some (.inr (least, most))

/-- spec.l24Star -/
noncomputable def spec_l24Star (list : List Estimate) (star : List UInt8) : Option (List (List UInt8)) :=
  (whileE (spec_l24Star_l1 list star) (0, ([] : List Int), 0)).bind fun y_6 =>
  if ((y_6.2.length : Int) == 0) then
    (spec_l01Dec y_6.1).bind fun y_8 =>
    some ([star, y_8, ([45] : List UInt8), ([45] : List UInt8)] : List (List UInt8))
  else
    ck (ixOk 0 y_6.2.length) <|
    (whileE (spec_l24Star_l2 star y_6.1 y_6.2) ((y_6.2.getD 0 default), (y_6.2.getD 0 default), 1)).bind fun y_14 =>
    (spec_l01Dec y_6.1).bind fun y_15 =>
    (spec_l02Text y_14.1).bind fun y_16 =>
    (spec_l02Text y_14.2).bind fun y_17 =>
    some ([star, y_15, y_16, y_17] : List (List UInt8))

noncomputable def spec_ReportRows_l1 (list : List Estimate) (stars : List (List UInt8)) : ((List (List (List UInt8))) × Int) → Option (((List (List (List UInt8))) × Int) ⊕ (List (List (List UInt8))))
  | (out, i) =>
    if (decide (i < (stars.length : Int))) then
      ck (ixOk i stars.length) <|
      (spec_l24Star list (stars.getD i.toNat default)).bind fun y_7 =>
      ck (appOk (out.length + ([y_7] : List (List (List UInt8))).length) 24) <|
      some (.inl ((out ++ ([y_7] : List (List (List UInt8)))), (IntKind.i64.wrap (i + 1))))
    else
      some (.inr out)

/-- spec.ReportRows -/
noncomputable def spec_ReportRows (list : List Estimate) : Option ((List (List (List UInt8))) × Int) :=
  (spec_l06Ok list).bind fun y_1 =>
  if (!y_1) then
    some (([] : List (List (List UInt8))), 1)
  else
    (spec_StarsIn list).bind fun y_3 =>
    if (!(y_3.2 == 0)) then
      some (([] : List (List (List UInt8))), y_3.2)
    else
      (whileE (spec_ReportRows_l1 list y_3.1) (([] : List (List (List UInt8))), 0)).bind fun y_9 =>
      some (y_9, 0)

/-- spec.l06Name -/
noncomputable def spec_l06Name (s_ : L00Src) : Option ((List UInt8) × L00Src) :=
  (spec_l00Src_text s_ ([([109, 105, 114, 97] : List UInt8), ([114, 114, 45, 108, 121, 114] : List UInt8), ([115, 115, 45, 99, 121, 103] : List UInt8), ([110, 111, 110, 101] : List UInt8), ([] : List UInt8), ([97, 98] : List UInt8), ([99, 100] : List UInt8)] : List (List UInt8))).bind fun y_1 =>
  some (y_1.1, y_1.2)

/-- spec.DrawStarRow -/
noncomputable def spec_DrawStarRow (code : List UInt8) : Option ((List Estimate) × (List UInt8)) :=
  (spec_l00From code).bind fun y_1 =>
  (spec_l06Bent y_1).bind fun y_2 =>
  (spec_l06Name y_2.2).bind fun y_3 =>
  some (y_2.1, y_3.1)

/-- impl.StarRow -/
noncomputable def impl_StarRow (list : List Estimate) (star : List UInt8) : Option ((List (List UInt8)) × Int) :=
  (impl_ValidEstimates list).bind fun y_1 =>
  if (!y_1) then
    some (([] : List (List UInt8)), 1)
  else
    (impl_IsName star).bind fun y_3 =>
    if (!y_3) then
      some (([] : List (List UInt8)), 2)
    else
      (impl_starRow list star).bind fun y_5 =>
      some (y_5, 0)

/-- spec.StarRow -/
noncomputable def spec_StarRow (list : List Estimate) (star : List UInt8) : Option ((List (List UInt8)) × Int) :=
  (spec_l06Ok list).bind fun y_1 =>
  if (!y_1) then
    some (([] : List (List UInt8)), 1)
  else
    (spec_IsName star).bind fun y_3 =>
    if (!y_3) then
      some (([] : List (List UInt8)), 2)
    else
      (spec_l24Star list star).bind fun y_5 =>
      some (y_5, 0)

noncomputable def spec_l08Draw_l1  : (L00Src × (List Point) × Int × Int) → Option ((L00Src × (List Point) × Int × Int) ⊕ (L00Src × (List Point)))
  | (s_, out, at_, k) =>
    if (decide (0 < k)) then
      (spec_l00Src_pick s_ 100).bind fun y_4 =>
      ck (appOk (out.length + ([(Point.mk at_ (IntKind.i64.wrap (8000 + (IntKind.i64.wrap (20 * y_4.1)))))] : List Point).length) 16) <|
      (spec_l00Src_pick y_4.2 40).bind fun y_6 =>
      some (.inl (y_6.2, (out ++ ([(Point.mk at_ (IntKind.i64.wrap (8000 + (IntKind.i64.wrap (20 * y_4.1)))))] : List Point)), (IntKind.i64.wrap (at_ + (IntKind.i64.wrap (100 * (IntKind.i64.wrap (1 + y_6.1)))))), (IntKind.i64.wrap (k - 1))))
    else
      some (.inr (s_, out))

/-- spec.l08Draw -/
noncomputable def spec_l08Draw (s_ : L00Src) (most : Int) : Option ((List Point) × L00Src) :=
  (spec_l00Src_pick s_ 9).bind fun y_1 =>
  (spec_l00Src_pick y_1.2 (IntKind.i64.wrap (most + 1))).bind fun y_2 =>
  (whileE (spec_l08Draw_l1) (y_2.2, ([] : List Point), (IntKind.i64.wrap (1000 * y_1.1)), y_2.1)).bind fun y_7 =>
  some (y_7.2, y_7.1)

noncomputable def spec_l08Bent_l1 (s_ : L00Src) : ((List Point) × Int) → Option (((List Point) × Int) ⊕ (List Point))
  | (curve, k) =>
    if (decide (0 < k)) then
      ck (appOk (curve.length + ([(Point.mk (IntKind.i64.wrap (10 * (curve.length : Int))) (IntKind.i64.wrap (9000 + k)))] : List Point).length) 16) <|
      some (.inl ((curve ++ ([(Point.mk (IntKind.i64.wrap (10 * (curve.length : Int))) (IntKind.i64.wrap (9000 + k)))] : List Point)), (IntKind.i64.wrap (k - 1))))
    else
      some (.inr curve)

/-- spec.l08Bent -/
noncomputable def spec_l08Bent (s_ : L00Src) : Option ((List Point) × L00Src) :=
  (spec_l08Draw s_ 12).bind fun y_1 =>
  (spec_l00Src_pick y_1.2 20).bind fun y_2 =>
  if (y_2.1 == 0) then
    (spec_l00Src_among y_2.2 ([(-1), 0, 10000000, 10000001] : List Int)).bind fun y_4 =>
    ck (appOk (y_1.1.length + ([(Point.mk y_4.1 9000)] : List Point).length) 16) <|
    some ((y_1.1 ++ ([(Point.mk y_4.1 9000)] : List Point)), y_4.2)
  else
    if (y_2.1 == 1) then
      if (decide (0 < (y_1.1.length : Int))) then
        (spec_l00Src_pick y_2.2 (y_1.1.length : Int)).bind fun y_8 =>
        (spec_l02Bent y_8.2).bind fun y_9 =>
        ck (ixOk y_8.1 y_1.1.length) <|
        some ((y_1.1.set y_8.1.toNat (Point.mk ((y_1.1.getD y_8.1.toNat default).Time) y_9.1)), y_9.2)
      else
        some (y_1.1, y_2.2)
    else
      if (y_2.1 == 2) then
        (spec_l00Src_pick y_2.2 2).bind fun y_12 =>
        (whileE (spec_l08Bent_l1 y_12.2) (([] : List Point), (IntKind.i64.wrap (100 + y_12.1)))).bind fun y_15 =>
        some (y_15, y_12.2)
      else
        some (y_1.1, y_2.2)

/-- spec.DrawPlotLines -/
noncomputable def spec_DrawPlotLines (code : List UInt8) : Option ((List Point) × Int × Int) :=
  (spec_l00From code).bind fun y_1 =>
  (spec_l08Bent y_1).bind fun y_2 =>
  (spec_l00Src_pick y_2.2 30).bind fun y_3 =>
  (spec_l00Src_one y_3.2 10).bind fun y_4 =>
  if y_4.1 then
    (spec_l00Src_among y_4.2 ([(-1), 0, 1, 80, 81] : List Int)).bind fun y_6 =>
    (spec_l00Src_one y_6.2 10).bind fun y_7 =>
    if y_7.1 then
      (spec_l00Src_among y_7.2 ([(-1), 0, 1, 60, 61] : List Int)).bind fun y_9 =>
      some (y_2.1, y_6.1, y_9.1)
    else
      (spec_l00Src_pick y_7.2 9).bind fun y_10 =>
      some (y_2.1, y_6.1, (IntKind.i64.wrap (1 + y_10.1)))
  else
    (spec_l00Src_one y_4.2 10).bind fun y_11 =>
    if y_11.1 then
      (spec_l00Src_among y_11.2 ([(-1), 0, 1, 60, 61] : List Int)).bind fun y_13 =>
      some (y_2.1, (IntKind.i64.wrap (1 + y_3.1)), y_13.1)
    else
      (spec_l00Src_pick y_11.2 9).bind fun y_14 =>
      some (y_2.1, (IntKind.i64.wrap (1 + y_3.1)), (IntKind.i64.wrap (1 + y_14.1)))

noncomputable def impl_ValidCurve_l1 (curve : List Point) (t8 : List Point) (t9 : Int) : Int → Option (Int ⊕ (Unit ⊕ Bool))
  | t10 =>
    if (decide (t10 < t9)) then
      ck (ixOk t10 t8.length) <|
      (impl_ValidTime ((t8.getD t10.toNat default).Time)).bind fun y_4 =>
      ck (!(!(!y_4)) || (impl_ValidMag ((t8.getD t10.toNat default).Mag)).isSome) <|
      ck (!((!((!y_4) || (!((impl_ValidMag ((t8.getD t10.toNat default).Mag)).getD default)))) && (decide (0 < t10))) || ixOk (IntKind.i64.wrap (t10 - 1)) curve.length) <|
      if (((!y_4) || (!((impl_ValidMag ((t8.getD t10.toNat default).Mag)).getD default))) || ((decide (0 < t10)) && (decide (((t8.getD t10.toNat default).Time) ≤ ((curve.getD (IntKind.i64.wrap (t10 - 1)).toNat default).Time))))) then
        some (.inr (.inr false))
      else
        some (.inl (IntKind.i64.wrap (t10 + 1)))
    else
      some (.inr (.inl ()))

/-- impl.ValidCurve -/
noncomputable def impl_ValidCurve (curve : List Point) : Option Bool :=
  if (decide (100 < (curve.length : Int))) then
    some false
  else
    (whileE (impl_ValidCurve_l1 curve curve (curve.length : Int)) 0).bind fun y_8 =>
    match y_8 with
    | .inl y_8a =>
      some true
    | .inr y_8b =>
      some y_8b

noncomputable def impl_magsIn_l1 (t7 : List Point) (t8 : Int) : ((List Int) × Int) → Option (((List Int) × Int) ⊕ (List Int))
  | (out, t9) =>
    if (decide (t9 < t8)) then
      ck (ixOk t9 t7.length) <|
      ck (appOk (out.length + ([(t7.getD t9.toNat default).Mag] : List Int).length) 8) <|
      some (.inl ((out ++ ([(t7.getD t9.toNat default).Mag] : List Int)), (IntKind.i64.wrap (t9 + 1))))
    else
      some (.inr out)

/-- impl.magsIn -/
noncomputable def impl_magsIn (curve : List Point) : Option (List Int) :=
  (whileE (impl_magsIn_l1 curve (curve.length : Int)) (([] : List Int), 0)).bind fun y_4 =>
  some y_4


/-- A star for each point, by hand (t, u: the first and the last time; a, b: the least and the largest magnitude). -/
noncomputable def plotG (t u a b columns rows : Int) : List Point → List (List UInt8) → Option (List (List UInt8))
  | [], g => some g
  | p :: r, g =>
    ck (decide (a ≤ p.Mag) && decide (p.Mag ≤ b) && decide (t ≤ p.Time) && decide (p.Time ≤ u)) <|
    ck (decide ((p.Mag - a) * rows / (b - a + 1) < (g.length : Int))) <|
    ck (decide ((p.Time - t) * columns / (u - t + 1) < ((g.getD ((p.Mag - a) * rows / (b - a + 1)).toNat []).length : Int))) <|
    plotG t u a b columns rows r (g.set ((p.Mag - a) * rows / (b - a + 1)).toNat ((g.getD ((p.Mag - a) * rows / (b - a + 1)).toNat []).set ((p.Time - t) * columns / (u - t + 1)).toNat 42))

noncomputable def plotE (t u a b columns rows : Int) (curve : List Point) (row : List UInt8) : Option (List (List UInt8) × Int) :=
  ck (decide (-1000000 ≤ a) && decide (a ≤ b) && decide (b ≤ 1000000) && decide (0 ≤ t) && decide (t ≤ u) && decide (u ≤ 100000000)) <|
  (plotG t u a b columns rows curve (List.replicate rows.toNat row)).bind fun g => some (g, 0)

/-- impl.PlotLines, by hand -/
noncomputable def impl_PlotLines (curve : List Point) (columns : Int) (rows : Int) : Option (List (List UInt8) × Int) :=
  (impl_ValidCurve curve).bind fun v => if (!v) then some ([], 1) else
  (impl_in columns 1 80).bind fun x => (impl_in rows 1 60).bind fun y => if (!x || !y) then some ([], 2) else
  ck (decide (curve.length ≤ 1000000) && decide (1 ≤ columns) && decide (columns ≤ 80) && decide (1 ≤ rows) && decide (rows ≤ 60)) <|
  (hRepeat [32] columns).bind fun row =>
  ck (decide (row.length ≤ 1000)) <|
  if (decide (0 < (curve.length : Int))) then
    (impl_magsIn curve).bind fun ms => (impl_RangeOfMags ms).bind fun r =>
    plotE (curve.getD 0 default).Time (curve.getD (curve.length - 1) default).Time r.1 r.2.1 columns rows curve row
  else some (List.replicate rows.toNat row, 0)

noncomputable def spec_l08Ok_l1 (curve : List Point) : Int → Option (Int ⊕ (Unit ⊕ Bool))
  | i =>
    if (decide (i < (curve.length : Int))) then
      ck (ixOk i curve.length) <|
      (spec_l06Time ((curve.getD i.toNat default).Time)).bind fun y_3 =>
      ck (!(!(!y_3)) || (spec_l02Mag ((curve.getD i.toNat default).Mag)).isSome) <|
      ck (!((!((!y_3) || (!((spec_l02Mag ((curve.getD i.toNat default).Mag)).getD default)))) && (decide (0 < i))) || ixOk (IntKind.i64.wrap (i - 1)) curve.length) <|
      if (((!y_3) || (!((spec_l02Mag ((curve.getD i.toNat default).Mag)).getD default))) || ((decide (0 < i)) && (decide (((curve.getD i.toNat default).Time) ≤ ((curve.getD (IntKind.i64.wrap (i - 1)).toNat default).Time))))) then
        some (.inr (.inr false))
      else
        some (.inl (IntKind.i64.wrap (i + 1)))
    else
      some (.inr (.inl ()))

/-- spec.l08Ok -/
noncomputable def spec_l08Ok (curve : List Point) : Option Bool :=
  (whileE (spec_l08Ok_l1 curve) 0).bind fun y_7 =>
  match y_7 with
  | .inl y_7a =>
    some (decide ((curve.length : Int) ≤ 100))
  | .inr y_7b =>
    some y_7b

noncomputable def spec_l24Blanks_l1  : (Int × (List UInt8)) → Option ((Int × (List UInt8)) ⊕ (List UInt8))
  | (n, out) =>
    if (decide (0 < n)) then
      ck (appOk (out.length + ([(32 : UInt8)] : List UInt8).length) 1) <|
      some (.inl ((IntKind.i64.wrap (n - 1)), (out ++ ([(32 : UInt8)] : List UInt8))))
    else
      some (.inr out)

/-- spec.l24Blanks -/
noncomputable def spec_l24Blanks (n : Int) : Option (List UInt8) :=
  (whileE (spec_l24Blanks_l1) (n, ([] : List UInt8))).bind fun y_3 =>
  some y_3

/-- the least and the largest magnitude -/
noncomputable def spec_PlotLines_m : List Point → Int → Int → Option (Int × Int)
  | [], a, b => some (a, b)
  | p :: r, a, b => (spec_l00Min a p.Mag).bind fun x => (spec_l00Max b p.Mag).bind fun y => spec_PlotLines_m r x y

/-- spec.PlotLines, by hand -/
noncomputable def spec_PlotLines (curve : List Point) (columns : Int) (rows : Int) : Option (List (List UInt8) × Int) :=
  (spec_l08Ok curve).bind fun v => if (!v) then some ([], 1) else
  (spec_l00In columns 1 80).bind fun x => (spec_l00In rows 1 60).bind fun y => if (!x || !y) then some ([], 2) else
  ck (decide (curve.length ≤ 1000000) && decide (1 ≤ columns) && decide (columns ≤ 80) && decide (1 ≤ rows) && decide (rows ≤ 60)) <|
  (spec_l24Blanks columns).bind fun row =>
  ck (decide (row.length ≤ 1000)) <|
  if (decide (0 < (curve.length : Int))) then
    (spec_PlotLines_m (curve.drop 1) (curve.getD 0 default).Mag (curve.getD 0 default).Mag).bind fun r =>
    plotE (curve.getD 0 default).Time (curve.getD (curve.length - 1) default).Time r.1 r.2 columns rows curve row
  else some (List.replicate rows.toNat row, 0)

noncomputable def laws_FnReports_l1 (list : List Estimate) (rows : List (List (List UInt8))) (bad : Int) (model : List (List (List UInt8))) (curve : List Point) (n : Int) (three : Int) (lines : List (List UInt8)) : Int → Option (Int ⊕ (Unit ⊕ Bool))
  | i =>
    if (decide (i < (rows.length : Int))) then
      ck (ixOk i rows.length) <|
      ck (ixOk i model.length) <|
      (laws_f6texts (rows.getD i.toNat default) (model.getD i.toNat default)).bind fun y_18 =>
      if (!y_18) then
        some (.inr (.inr false))
      else
        some (.inl (IntKind.i64.wrap (i + 1)))
    else
      some (.inr (.inl ()))

noncomputable def laws_FnReports_l3 (list : List Estimate) (bad : Int) (model : List (List (List UInt8))) (curve : List Point) (n : Int) (lines : List (List UInt8)) (i : Int) : (Int × Bool × Int) → Option ((Int × Bool × Int) ⊕ (Int × Bool))
  | (stars, first, k) =>
    ck (ixOk i lines.length) <|
    if (decide (k < ((lines.getD i.toNat default).length : Int))) then
      ck (ixOk k ((lines.getD i.toNat default).length)) <|
      if ((((lines.getD i.toNat default).getD k.toNat 0).toNat : Int) == 42) then
        some (.inl ((IntKind.i64.wrap (stars + 1)), (first || (k == 0)), (IntKind.i64.wrap (k + 1))))
      else
        some (.inl (stars, first, (IntKind.i64.wrap (k + 1))))
    else
      some (.inr (stars, first))

noncomputable def laws_FnReports_l2 (list : List Estimate) (bad : Int) (model : List (List (List UInt8))) (curve : List Point) (n : Int) (lines : List (List UInt8)) : (Int × Bool × Int) → Option ((Int × Bool × Int) ⊕ (Int × Bool))
  | (stars, first, i) =>
    if (decide (i < (lines.length : Int))) then
      (whileE (laws_FnReports_l3 list bad model curve n lines i) (stars, first, 0)).bind fun y_27 =>
      some (.inl (y_27.1, y_27.2, (IntKind.i64.wrap (i + 1))))
    else
      some (.inr (stars, first))

noncomputable def laws_FnReports_l4 (model : List (List (List UInt8))) (names : List (List UInt8)) : Int → Option (Int ⊕ (Unit ⊕ Bool))
  | i =>
    if (decide (i < (model.length : Int))) then
      ck (ixOk i model.length) <|
      ck (!(!(!(((model.getD i.toNat default).length : Int) == 4))) || ixOk 0 ((model.getD i.toNat default).length)) <|
      ck (!(!(!(((model.getD i.toNat default).length : Int) == 4))) || ixOk i names.length) <|
      if ((!(((model.getD i.toNat default).length : Int) == 4)) || (!(((model.getD i.toNat default).getD 0 default) == (names.getD i.toNat default)))) then
        some (.inr (.inr false))
      else
        some (.inl (IntKind.i64.wrap (i + 1)))
    else
      some (.inr (.inl ()))

noncomputable def laws_FnReports_l5 (model : List (List (List UInt8))) (names : List (List UInt8)) : Int → Option (Int ⊕ (Unit ⊕ Bool))
  | i =>
    if (decide (i < (model.length : Int))) then
      ck (ixOk i model.length) <|
      ck (!(!(!(((model.getD i.toNat default).length : Int) == 4))) || ixOk 0 ((model.getD i.toNat default).length)) <|
      ck (!(!(!(((model.getD i.toNat default).length : Int) == 4))) || ixOk i names.length) <|
      if ((!(((model.getD i.toNat default).length : Int) == 4)) || (!(((model.getD i.toNat default).getD 0 default) == (names.getD i.toNat default)))) then
        some (.inr (.inr false))
      else
        some (.inl (IntKind.i64.wrap (i + 1)))
    else
      some (.inr (.inl ()))

/-- laws.FnReports -/
noncomputable def laws_FnReports (code : List UInt8) : Option Bool :=
  (laws_f6big code).bind fun y_1 =>
  if y_1 then
    some true
  else
    (spec_DrawReportRows code).bind fun y_3 =>
    (impl_ReportRows y_3).bind fun y_4 =>
    (spec_ReportRows y_3).bind fun y_5 =>
    (spec_DrawStarRow code).bind fun y_6 =>
    (impl_StarRow y_6.1 y_6.2).bind fun y_7 =>
    (spec_StarRow y_6.1 y_6.2).bind fun y_8 =>
    (spec_DrawPlotLines code).bind fun y_9 =>
    (impl_PlotLines y_9.1 y_9.2.1 y_9.2.2).bind fun y_10 =>
    (spec_PlotLines y_9.1 y_9.2.1 y_9.2.2).bind fun y_11 =>
    ck (!(!(((!(y_4.2 == y_5.2)) || (!((y_4.1.length : Int) == (y_5.1.length : Int)))) || (!(y_7.2 == y_8.2)))) || (laws_f6texts y_7.1 y_8.1).isSome) <|
    ck (!(!(((((!(y_4.2 == y_5.2)) || (!((y_4.1.length : Int) == (y_5.1.length : Int)))) || (!(y_7.2 == y_8.2))) || (!((laws_f6texts y_7.1 y_8.1).getD default))) || (!(y_10.2 == y_11.2)))) || (laws_f6texts y_10.1 y_11.1).isSome) <|
    if ((((((!(y_4.2 == y_5.2)) || (!((y_4.1.length : Int) == (y_5.1.length : Int)))) || (!(y_7.2 == y_8.2))) || (!((laws_f6texts y_7.1 y_8.1).getD default))) || (!(y_10.2 == y_11.2))) || (!((laws_f6texts y_10.1 y_11.1).getD default))) then
      some false
    else
      (whileE (laws_FnReports_l1 y_3 y_4.1 y_4.2 y_5.1 y_9.1 y_9.2.2 y_10.2 y_11.1) 0).bind fun y_20 =>
      match y_20 with
      | .inl y_20a =>
        if (y_10.2 == 0) then
          (whileE (laws_FnReports_l2 y_3 y_4.2 y_5.1 y_9.1 y_9.2.2 y_11.1) (0, false, 0)).bind fun y_28 =>
          if (((!((y_11.1.length : Int) == y_9.2.2)) || (decide ((y_9.1.length : Int) < y_28.1))) || (!((decide (0 < (y_9.1.length : Int))) == y_28.2))) then
            some false
          else
            if (!(y_4.2 == 0)) then
              some true
            else
              (impl_StarsIn y_3).bind fun y_31 =>
              if ((!(y_31.2 == 0)) || (!((y_31.1.length : Int) == (y_5.1.length : Int)))) then
                some false
              else
                (whileE (laws_FnReports_l4 y_5.1 y_31.1) 0).bind fun y_38 =>
                match y_38 with
                | .inl y_38a =>
                  some true
                | .inr y_38b =>
                  some y_38b
        else
          if (!(y_4.2 == 0)) then
            some true
          else
            (impl_StarsIn y_3).bind fun y_40 =>
            if ((!(y_40.2 == 0)) || (!((y_40.1.length : Int) == (y_5.1.length : Int)))) then
              some false
            else
              (whileE (laws_FnReports_l5 y_5.1 y_40.1) 0).bind fun y_47 =>
              match y_47 with
              | .inl y_47a =>
                some true
              | .inr y_47b =>
                some y_47b
      | .inr y_20b =>
        some y_20b

end Go.Proofs.YtbobhejdijcofaaGreatDoor
