/- Plain lemmas, several texts in one. No condition. -/
import Derived.Test.YtpjpfdoaemoddaaGreatEngSH
import Derived.Test.YtpjpfdoaemoddaaGreatEngTD
/- Typed forms of the functions that PK reaches. No condition. -/
namespace Go.Proofs.YtpjpfdoaemoddaaGreat
open Go Go.RowKit
set_option linter.unusedVariables false

structure Estimate where
  Time : Int
  Star : List UInt8
  Observer : List UInt8
  Mag : Int
  Fainter : Bool
  deriving Inhabited, DecidableEq
def Estimate_av (x : Estimate) : AV := .agg ([.int .i64 x.Time, .str x.Star, .str x.Observer, .int .i64 x.Mag, .bool x.Fainter])

structure L00Src where
  code_ : List UInt8
  at_ : Int
  seed_ : Int
  deriving Inhabited, DecidableEq
def L00Src_av (x : L00Src) : AV := .agg ([.sl 1 (List.map byteAV x.code_), .int .i64 x.at_, .int .u64 x.seed_])

structure Point where
  Time : Int
  Mag : Int
  deriving Inhabited, DecidableEq
def Point_av (x : Point) : AV := .agg ([.int .i64 x.Time, .int .i64 x.Mag])

structure Unpacker where
  rest_ : List UInt8
  bad_ : Bool
  deriving Inhabited, DecidableEq
def Unpacker_av (x : Unpacker) : AV := .agg ([.sl 1 (List.map byteAV x.rest_), .bool x.bad_])

structure L25R where
  b_ : List UInt8
  at_ : Int
  ok_ : Bool
  deriving Inhabited, DecidableEq
def L25R_av (x : L25R) : AV := .agg ([.sl 1 (List.map byteAV x.b_), .int .i64 x.at_, .bool x.ok_])

attribute [go_sem] Estimate_av L00Src_av Point_av Unpacker_av L25R_av

/-- laws.f6big -/
noncomputable def laws_f6big (code : List UInt8) : Option Bool :=
  some (decide (4096 < (code.length : Int)))

/-- spec.l00From -/
noncomputable def spec_l00From (code : List UInt8) : Option L00Src :=
  some (L00Src.mk code 0 0)

/-- (*spec.l00Src).next -/
noncomputable def spec_l00Src_next (s_ : L00Src) : Option (Int × L00Src) :=
  if (decide (s_.at_ < (s_.code_.length : Int))) then
    ck (ixOk s_.at_ s_.code_.length) <|
    if (decide ((IntKind.i64.wrap (s_.at_ + 1)) ≤ (s_.code_.length : Int))) then
      some (((s_.code_.getD s_.at_.toNat default).toNat : Int), (L00Src.mk s_.code_ (IntKind.i64.wrap (s_.at_ + 1)) (IntKind.u64.wrap ((IntKind.u64.wrap ((IntKind.u64.wrap (s_.seed_ * 6364136223846793005)) + (IntKind.u64.wrap ((s_.code_.getD s_.at_.toNat default).toNat : Int)))) + 1442695040888963407))))
    else
      ck (shOk 40) <|
      some ((IntKind.i64.wrap (IntKind.u64.wrap (BitVec.ofInt (IntKind.bits .u64) ((IntKind.u64.wrap ((IntKind.u64.wrap ((IntKind.u64.wrap (s_.seed_ * 6364136223846793005)) + (IntKind.u64.wrap ((s_.code_.getD s_.at_.toNat default).toNat : Int)))) + 1442695040888963407)).fdiv (2 ^ (min 40 64))) &&& BitVec.ofInt (IntKind.bits .u64) 255).toNat)), (L00Src.mk s_.code_ (IntKind.i64.wrap (s_.at_ + 1)) (IntKind.u64.wrap ((IntKind.u64.wrap ((IntKind.u64.wrap (s_.seed_ * 6364136223846793005)) + (IntKind.u64.wrap ((s_.code_.getD s_.at_.toNat default).toNat : Int)))) + 1442695040888963407))))
  else
    if (decide ((IntKind.i64.wrap (s_.at_ + 1)) ≤ (s_.code_.length : Int))) then
      some (0, (L00Src.mk s_.code_ (IntKind.i64.wrap (s_.at_ + 1)) (IntKind.u64.wrap ((IntKind.u64.wrap ((IntKind.u64.wrap (s_.seed_ * 6364136223846793005)) + (IntKind.u64.wrap 0))) + 1442695040888963407))))
    else
      ck (shOk 40) <|
      some ((IntKind.i64.wrap (IntKind.u64.wrap (BitVec.ofInt (IntKind.bits .u64) ((IntKind.u64.wrap ((IntKind.u64.wrap ((IntKind.u64.wrap (s_.seed_ * 6364136223846793005)) + (IntKind.u64.wrap 0))) + 1442695040888963407)).fdiv (2 ^ (min 40 64))) &&& BitVec.ofInt (IntKind.bits .u64) 255).toNat)), (L00Src.mk s_.code_ (IntKind.i64.wrap (s_.at_ + 1)) (IntKind.u64.wrap ((IntKind.u64.wrap ((IntKind.u64.wrap (s_.seed_ * 6364136223846793005)) + (IntKind.u64.wrap 0))) + 1442695040888963407))))

/-- (*spec.l00Src).pick -/
noncomputable def spec_l00Src_pick (s_ : L00Src) (n : Int) : Option (Int × L00Src) :=
  if (decide (n ≤ 1)) then
    some (0, s_)
  else
    (spec_l00Src_next s_).bind fun y_2 =>
    if (decide (200 < n)) then
      (spec_l00Src_next y_2.2).bind fun y_4 =>
      ck (nz n) <|
      some (((IntKind.i64.wrap ((IntKind.i64.wrap (y_2.1 * 256)) + y_4.1)).tmod n), y_4.2)
    else
      ck (nz n) <|
      some ((y_2.1.tmod n), y_2.2)

/-- (*spec.l00Src).one -/
noncomputable def spec_l00Src_one (s_ : L00Src) (n : Int) : Option (Bool × L00Src) :=
  (spec_l00Src_pick s_ n).bind fun y_1 =>
  some ((y_1.1 == 0), y_1.2)

/-- (*spec.l00Src).text -/
noncomputable def spec_l00Src_text (s_ : L00Src) (list : List (List UInt8)) : Option ((List UInt8) × L00Src) :=
  (spec_l00Src_pick s_ (list.length : Int)).bind fun y_1 =>
  ck (ixOk y_1.1 list.length) <|
  some ((list.getD y_1.1.toNat default), y_1.2)

/-- spec.l06New -/
noncomputable def spec_l06New (s_ : L00Src) : Option (Estimate × L00Src) :=
  (spec_l00Src_pick s_ 30).bind fun y_1 =>
  (spec_l00Src_one y_1.2 2).bind fun y_2 =>
  if y_2.1 then
    (spec_l00Src_pick y_2.2 3000).bind fun y_4 =>
    (spec_l00Src_text y_4.2 ([([109, 105, 114, 97] : List UInt8), ([114, 114, 45, 108, 121, 114] : List UInt8), ([115, 115, 45, 99, 121, 103] : List UInt8)] : List (List UInt8))).bind fun y_5 =>
    (spec_l00Src_text y_5.2 ([([97, 98] : List UInt8), ([99, 100] : List UInt8), ([101] : List UInt8)] : List (List UInt8))).bind fun y_6 =>
    (spec_l00Src_pick y_6.2 60).bind fun y_7 =>
    (spec_l00Src_one y_7.2 5).bind fun y_8 =>
    some ((Estimate.mk (IntKind.i64.wrap ((IntKind.i64.wrap (1000 * y_1.1)) + y_4.1)) y_5.1 y_6.1 (IntKind.i64.wrap (8000 + (IntKind.i64.wrap (50 * y_7.1)))) y_8.1), y_8.2)
  else
    (spec_l00Src_text y_2.2 ([([109, 105, 114, 97] : List UInt8), ([114, 114, 45, 108, 121, 114] : List UInt8), ([115, 115, 45, 99, 121, 103] : List UInt8)] : List (List UInt8))).bind fun y_9 =>
    (spec_l00Src_text y_9.2 ([([97, 98] : List UInt8), ([99, 100] : List UInt8), ([101] : List UInt8)] : List (List UInt8))).bind fun y_10 =>
    (spec_l00Src_pick y_10.2 60).bind fun y_11 =>
    (spec_l00Src_one y_11.2 5).bind fun y_12 =>
    some ((Estimate.mk (IntKind.i64.wrap (1000 * y_1.1)) y_9.1 y_10.1 (IntKind.i64.wrap (8000 + (IntKind.i64.wrap (50 * y_11.1)))) y_12.1), y_12.2)

/-- spec.l06Before -/
noncomputable def spec_l06Before (a : Estimate) (b : Estimate) : Option Bool :=
  if (!(a.Time == b.Time)) then
    some (decide (a.Time < b.Time))
  else
    if (!(a.Star == b.Star)) then
      some (Op.bytesLess a.Star b.Star)
    else
      some (Op.bytesLess a.Observer b.Observer)

noncomputable def spec_l06Find_l1 (list : List Estimate) (e_ : Estimate) : Int → Option (Int ⊕ (Unit ⊕ Int))
  | i =>
    if (decide (i < (list.length : Int))) then
      ck (ixOk i list.length) <|
      (spec_l06Before (list.getD i.toNat default) e_).bind fun y_3 =>
      ck (!(!y_3) || (spec_l06Before e_ (list.getD i.toNat default)).isSome) <|
      if ((!y_3) && (!((spec_l06Before e_ (list.getD i.toNat default)).getD default))) then
        some (.inr (.inr i))
      else
        some (.inl (IntKind.i64.wrap (i + 1)))
    else
      some (.inr (.inl ()))

/-- spec.l06Find -/
noncomputable def spec_l06Find (list : List Estimate) (e_ : Estimate) : Option Int :=
  (whileE (spec_l06Find_l1 list e_) 0).bind fun y_6 =>
  match y_6 with
  | .inl y_6a =>
    some (-1)
  | .inr y_6b =>
    some y_6b

noncomputable def spec_l06Put_l1 (list : List Estimate) (e_ : Estimate) : Int → Option (Int ⊕ Int)
  | k =>
    ck (!(decide (0 < k)) || ixOk (IntKind.i64.wrap (k - 1)) list.length) <|
    ck (!(decide (0 < k)) || (spec_l06Before e_ (list.getD (IntKind.i64.wrap (k - 1)).toNat default)).isSome) <|
    if ((decide (0 < k)) && ((spec_l06Before e_ (list.getD (IntKind.i64.wrap (k - 1)).toNat default)).getD default)) then
      some (.inl (IntKind.i64.wrap (k - 1)))
    else
      some (.inr k)

/-- spec.l06Put -/
noncomputable def spec_l06Put (list : List Estimate) (e_ : Estimate) : Option (List Estimate) :=
  (whileE (spec_l06Put_l1 list e_) (list.length : Int)).bind fun y_4 =>
  ck (cutOk 0 y_4 list.length) <|
  ck (appOk (([] : List Estimate).length + (cut list 0 y_4).length) 56) <|
  ck (appOk ((([] : List Estimate) ++ (cut list 0 y_4)).length + ([e_] : List Estimate).length) 56) <|
  ck (cutOk y_4 (list.length : Int) list.length) <|
  ck (appOk (((([] : List Estimate) ++ (cut list 0 y_4)) ++ ([e_] : List Estimate)).length + (cut list y_4 (list.length : Int)).length) 56) <|
  some (((([] : List Estimate) ++ (cut list 0 y_4)) ++ ([e_] : List Estimate)) ++ (cut list y_4 (list.length : Int)))

noncomputable def spec_l06Draw_l1  : (L00Src × (List Estimate) × Int) → Option ((L00Src × (List Estimate) × Int) ⊕ (L00Src × (List Estimate)))
  | (s_, out, k) =>
    if (decide (0 < k)) then
      (spec_l06New s_).bind fun y_3 =>
      (spec_l06Find out y_3.1).bind fun y_4 =>
      if (decide (y_4 < 0)) then
        (spec_l06Put out y_3.1).bind fun y_6 =>
        some (.inl (y_3.2, y_6, (IntKind.i64.wrap (k - 1))))
      else
        some (.inl (y_3.2, out, (IntKind.i64.wrap (k - 1))))
    else
      some (.inr (s_, out))

/-- spec.l06Draw -/
noncomputable def spec_l06Draw (s_ : L00Src) (most : Int) : Option ((List Estimate) × L00Src) :=
  (spec_l00Src_pick s_ (IntKind.i64.wrap (most + 1))).bind fun y_1 =>
  (whileE (spec_l06Draw_l1) (y_1.2, ([] : List Estimate), y_1.1)).bind fun y_7 =>
  some (y_7.2, y_7.1)

/-- (*spec.l00Src).among -/
noncomputable def spec_l00Src_among (s_ : L00Src) (list : List Int) : Option (Int × L00Src) :=
  (spec_l00Src_pick s_ (list.length : Int)).bind fun y_1 =>
  ck (ixOk y_1.1 list.length) <|
  some ((list.getD y_1.1.toNat default), y_1.2)

/-- spec.l02Draw -/
noncomputable def spec_l02Draw (s_ : L00Src) : Option (Int × L00Src) :=
  (spec_l00Src_one s_ 8).bind fun y_1 =>
  if y_1.1 then
    (spec_l00Src_pick y_1.2 22001).bind fun y_3 =>
    some ((IntKind.i64.wrap (y_3.1 + (-2000))), y_3.2)
  else
    (spec_l00Src_pick y_1.2 60).bind fun y_4 =>
    some ((IntKind.i64.wrap (8000 + (IntKind.i64.wrap (50 * y_4.1)))), y_4.2)

/-- spec.l02Bent -/
noncomputable def spec_l02Bent (s_ : L00Src) : Option (Int × L00Src) :=
  (spec_l00Src_one s_ 14).bind fun y_1 =>
  if y_1.1 then
    (spec_l00Src_among y_1.2 ([(-2001), (-2000), 20000, 20001, (-9223372036854775808), 9223372036854775807] : List Int)).bind fun y_3 =>
    some (y_3.1, y_3.2)
  else
    (spec_l02Draw y_1.2).bind fun y_4 =>
    some (y_4.1, y_4.2)

/-- spec.l06BentOne -/
noncomputable def spec_l06BentOne (s_ : L00Src) : Option (Estimate × L00Src) :=
  (spec_l06New s_).bind fun y_1 =>
  (spec_l00Src_pick y_1.2 24).bind fun y_2 =>
  if (y_2.1 == 0) then
    (spec_l00Src_among y_2.2 ([(-1), 0, 10000000, 10000001] : List Int)).bind fun y_4 =>
    some ((Estimate.mk y_4.1 y_1.1.Star y_1.1.Observer y_1.1.Mag y_1.1.Fainter), y_4.2)
  else
    if (y_2.1 == 1) then
      (spec_l00Src_text y_2.2 ([([] : List UInt8), ([77, 105, 114, 97] : List UInt8), ([97, 32, 98] : List UInt8)] : List (List UInt8))).bind fun y_6 =>
      some ((Estimate.mk y_1.1.Time y_6.1 y_1.1.Observer y_1.1.Mag y_1.1.Fainter), y_6.2)
    else
      if (y_2.1 == 2) then
        (spec_l00Src_text y_2.2 ([([] : List UInt8), ([65, 66] : List UInt8)] : List (List UInt8))).bind fun y_8 =>
        some ((Estimate.mk y_1.1.Time y_1.1.Star y_8.1 y_1.1.Mag y_1.1.Fainter), y_8.2)
      else
        if (y_2.1 == 3) then
          (spec_l02Bent y_2.2).bind fun y_10 =>
          some ((Estimate.mk y_1.1.Time y_1.1.Star y_1.1.Observer y_10.1 y_1.1.Fainter), y_10.2)
        else
          some (y_1.1, y_2.2)

noncomputable def spec_l06Bent_l1 (s_ : L00Src) : ((List Estimate) × Int) → Option (((List Estimate) × Int) ⊕ (List Estimate))
  | (list, k) =>
    if (decide (0 < k)) then
      ck (appOk (list.length + ([(Estimate.mk (list.length : Int) ([109, 105, 114, 97] : List UInt8) ([97, 98] : List UInt8) 9000 false)] : List Estimate).length) 56) <|
      some (.inl ((list ++ ([(Estimate.mk (list.length : Int) ([109, 105, 114, 97] : List UInt8) ([97, 98] : List UInt8) 9000 false)] : List Estimate)), (IntKind.i64.wrap (k - 1))))
    else
      some (.inr list)

/-- spec.l06Bent -/
noncomputable def spec_l06Bent (s_ : L00Src) : Option ((List Estimate) × L00Src) :=
  (spec_l06Draw s_ 10).bind fun y_1 =>
  (spec_l00Src_pick y_1.2 20).bind fun y_2 =>
  if (y_2.1 == 0) then
    (spec_l06BentOne y_2.2).bind fun y_4 =>
    ck (appOk (y_1.1.length + ([y_4.1] : List Estimate).length) 56) <|
    some ((y_1.1 ++ ([y_4.1] : List Estimate)), y_4.2)
  else
    if (y_2.1 == 1) then
      (spec_l00Src_pick y_2.2 2).bind fun y_7 =>
      (whileE (spec_l06Bent_l1 y_7.2) (([] : List Estimate), (IntKind.i64.wrap (100 + y_7.1)))).bind fun y_10 =>
      some (y_10, y_7.2)
    else
      if (y_2.1 == 2) then
        if (decide (0 < (y_1.1.length : Int))) then
          (spec_l00Src_pick y_2.2 (y_1.1.length : Int)).bind fun y_13 =>
          (spec_l06BentOne y_13.2).bind fun y_14 =>
          ck (ixOk y_13.1 y_1.1.length) <|
          some ((y_1.1.set y_13.1.toNat y_14.1), y_14.2)
        else
          some (y_1.1, y_2.2)
      else
        some (y_1.1, y_2.2)

/-- spec.DrawPackEstimates -/
noncomputable def spec_DrawPackEstimates (code : List UInt8) : Option (List Estimate) :=
  (spec_l00From code).bind fun y_1 =>
  (spec_l06Bent y_1).bind fun y_2 =>
  some y_2.1

/-- impl.placeOf$1 -/
noncomputable def impl_placeOf_c1 (s_ : List UInt8) (t1 : List UInt8) : Option Bool :=
  some (s_ == t1)

noncomputable def slices_IndexFunc_string_string__impl_placeOf_c1_l1 (s_ : List (List UInt8)) (c : List UInt8) (t7 : Int) : Int → Option (Int ⊕ (Unit ⊕ Int))
  | t8 =>
    if (decide (t8 < t7)) then
      ck (ixOk t8 s_.length) <|
      (impl_placeOf_c1 (s_.getD t8.toNat default) c).bind fun y_3 =>
      if y_3 then
        some (.inr (.inr t8))
      else
        some (.inl (IntKind.i64.wrap (t8 + 1)))
    else
      some (.inr (.inl ()))

/-- slices.IndexFunc[[]string,string] -/
noncomputable def slices_IndexFunc_string_string__impl_placeOf_c1 (s_ : List (List UInt8)) (f_c0 : List UInt8) : Option Int :=
  (whileE (slices_IndexFunc_string_string__impl_placeOf_c1_l1 s_ f_c0 (s_.length : Int)) 0).bind fun y_5 =>
  match y_5 with
  | .inl y_5a =>
    some (-1)
  | .inr y_5b =>
    some y_5b

/-- impl.indexOf[string] -/
noncomputable def impl_indexOf_string__impl_placeOf_c1 (list : List (List UInt8)) (wanted_c0 : List UInt8) : Option (Int × Int) :=
  (slices_IndexFunc_string_string__impl_placeOf_c1 list wanted_c0).bind fun y_1 =>
  if (decide (0 ≤ y_1)) then
    some (y_1, 0)
  else
    some (0, 3)

/-- impl.placeOf -/
noncomputable def impl_placeOf (names : List (List UInt8)) (name : List UInt8) : Option Int :=
  (impl_indexOf_string__impl_placeOf_c1 names name).bind fun y_1 =>
  some y_1.1

/-- impl.fold -/
noncomputable def impl_fold (n : Int) : Option Int :=
  if (decide (n < 0)) then
    some (IntKind.i64.wrap ((IntKind.i64.wrap ((-2) * n)) - 1))
  else
    some (IntKind.i64.wrap (2 * n))

/-- impl.in -/
noncomputable def impl_in (n : Int) (low : Int) (high : Int) : Option Bool :=
  some ((decide (low ≤ n)) && (decide (n ≤ high)))

/-- impl.ValidTime -/
noncomputable def impl_ValidTime (t : Int) : Option Bool :=
  (impl_in t 0 10000000).bind fun y_1 =>
  some y_1

noncomputable def impl_IsName_l1 (s_ : List UInt8) (t15 : Int) : Int → Option (Int ⊕ (Unit ⊕ Bool))
  | t16 =>
    if (decide (t16 < t15)) then
      ck (ixOk t16 s_.length) <|
      if ((!((decide (97 ≤ ((s_.getD t16.toNat 0).toNat : Int))) && (decide (((s_.getD t16.toNat 0).toNat : Int) ≤ 122)))) && ((t16 == 0) || (!(((decide (48 ≤ ((s_.getD t16.toNat 0).toNat : Int))) && (decide (((s_.getD t16.toNat 0).toNat : Int) ≤ 57))) || (((s_.getD t16.toNat 0).toNat : Int) == 45))))) then
        some (.inr (.inr false))
      else
        some (.inl (IntKind.i64.wrap (t16 + 1)))
    else
      some (.inr (.inl ()))

/-- impl.IsName -/
noncomputable def impl_IsName (s_ : List UInt8) : Option Bool :=
  if ((decide ((s_.length : Int) < 1)) || (decide (12 < (s_.length : Int)))) then
    some false
  else
    (whileE (impl_IsName_l1 s_ (s_.length : Int)) 0).bind fun y_5 =>
    match y_5 with
    | .inl y_5a =>
      some true
    | .inr y_5b =>
      some y_5b

/-- impl.ValidMag -/
noncomputable def impl_ValidMag (m : Int) : Option Bool :=
  (impl_in m (-2000) 20000).bind fun y_1 =>
  some y_1

/-- impl.isEstimate -/
noncomputable def impl_isEstimate (e_ : Estimate) : Option Bool :=
  (impl_ValidTime e_.Time).bind fun y_1 =>
  ck (!y_1 || (impl_IsName e_.Star).isSome) <|
  ck (!(y_1 && ((impl_IsName e_.Star).getD default)) || (impl_IsName e_.Observer).isSome) <|
  ck (!((y_1 && ((impl_IsName e_.Star).getD default)) && ((impl_IsName e_.Observer).getD default)) || (impl_ValidMag e_.Mag).isSome) <|
  some (((y_1 && ((impl_IsName e_.Star).getD default)) && ((impl_IsName e_.Observer).getD default)) && ((impl_ValidMag e_.Mag).getD default))

/-- cmp.isNaN[int64] -/
noncomputable def cmp_isNaN_int64 (x : Int) : Option Bool :=
  some (!(x == x))

/-- cmp.Compare[int64] -/
noncomputable def cmp_Compare_int64 (x : Int) (y : Int) : Option Int :=
  (cmp_isNaN_int64 x).bind fun y_1 =>
  (cmp_isNaN_int64 y).bind fun y_2 =>
  if y_1 then
    if y_2 then
      some 0
    else
      some (-1)
  else
    if y_2 then
      some 1
    else
      if (decide (x < y)) then
        some (-1)
      else
        if (decide (y < x)) then
          some 1
        else
          some 0


/-- internal/bytealg.CompareString -/
noncomputable def internal_bytealg_CompareString (a : List UInt8) (b : List UInt8) : Option Int :=
  (hCmp a b).bind fun y_1 =>
  some y_1

/-- strings.Compare -/
noncomputable def strings_Compare (a : List UInt8) (b : List UInt8) : Option Int :=
  (internal_bytealg_CompareString a b).bind fun y_1 =>
  some y_1

noncomputable def cmp_Or_int_l1 (zero : Int) (t6 : List Int) (t7 : Int) : Int → Option (Int ⊕ (Unit ⊕ Int))
  | t8 =>
    if (decide (t8 < t7)) then
      ck (ixOk t8 t6.length) <|
      if (!((t6.getD t8.toNat default) == zero)) then
        some (.inr (.inr (t6.getD t8.toNat default)))
      else
        some (.inl (IntKind.i64.wrap (t8 + 1)))
    else
      some (.inr (.inl ()))

/-- cmp.Or[int] -/
noncomputable def cmp_Or_int (vals : List Int) : Option Int :=
  (whileE (cmp_Or_int_l1 0 vals (vals.length : Int)) 0).bind fun y_4 =>
  match y_4 with
  | .inl y_4a =>
    some 0
  | .inr y_4b =>
    some y_4b

/-- impl.compareEstimates -/
noncomputable def impl_compareEstimates (a : Estimate) (b : Estimate) : Option Int :=
  (cmp_Compare_int64 a.Time b.Time).bind fun y_1 =>
  (strings_Compare a.Star b.Star).bind fun y_2 =>
  (strings_Compare a.Observer b.Observer).bind fun y_3 =>
  (cmp_Or_int ([y_1, y_2, y_3] : List Int)).bind fun y_4 =>
  some y_4

noncomputable def impl_ValidEstimates_l1 (list : List Estimate) (t8 : List Estimate) (t9 : Int) : Int → Option (Int ⊕ (Unit ⊕ Bool))
  | t10 =>
    if (decide (t10 < t9)) then
      ck (ixOk t10 t8.length) <|
      (impl_isEstimate (t8.getD t10.toNat default)).bind fun y_4 =>
      ck (!((!(!y_4)) && (decide (0 < t10))) || ixOk (IntKind.i64.wrap (t10 - 1)) list.length) <|
      ck (!((!(!y_4)) && (decide (0 < t10))) || (impl_compareEstimates (list.getD (IntKind.i64.wrap (t10 - 1)).toNat default) (t8.getD t10.toNat default)).isSome) <|
      if ((!y_4) || ((decide (0 < t10)) && (decide (0 ≤ ((impl_compareEstimates (list.getD (IntKind.i64.wrap (t10 - 1)).toNat default) (t8.getD t10.toNat default)).getD default))))) then
        some (.inr (.inr false))
      else
        some (.inl (IntKind.i64.wrap (t10 + 1)))
    else
      some (.inr (.inl ()))

/-- impl.ValidEstimates -/
noncomputable def impl_ValidEstimates (list : List Estimate) : Option Bool :=
  if (decide (100 < (list.length : Int))) then
    some false
  else
    (whileE (impl_ValidEstimates_l1 list list (list.length : Int)) 0).bind fun y_8 =>
    match y_8 with
    | .inl y_8a =>
      some true
    | .inr y_8b =>
      some y_8b

/-- impl.starOf -/
noncomputable def impl_starOf (e_ : Estimate) : Option (List UInt8) :=
  some e_.Star



noncomputable def impl_namesOf__impl_starOf_l1 (t9 : List Estimate) (t10 : Int) : ((List (List UInt8)) × Int) → Option (((List (List UInt8)) × Int) ⊕ (List (List UInt8)))
  | (out, t11) =>
    if (decide (t11 < t10)) then
      ck (ixOk t11 t9.length) <|
      (impl_starOf (t9.getD t11.toNat default)).bind fun y_3 =>
      ck (appOk (out.length + ([y_3] : List (List UInt8)).length) 16) <|
      some (.inl ((out ++ ([y_3] : List (List UInt8))), (IntKind.i64.wrap (t11 + 1))))
    else
      some (.inr out)

/-- impl.namesOf -/
noncomputable def impl_namesOf__impl_starOf (list : List Estimate) : Option (List (List UInt8)) :=
  (whileE (impl_namesOf__impl_starOf_l1 list (list.length : Int)) (([] : List (List UInt8)), 0)).bind fun y_5 =>
  (hSort y_5).bind fun y_6 =>
  (hCompact y_6).bind fun y_7 =>
  some y_7

/-- impl.observerOf -/
noncomputable def impl_observerOf (e_ : Estimate) : Option (List UInt8) :=
  some e_.Observer

noncomputable def impl_namesOf__impl_observerOf_l1 (t9 : List Estimate) (t10 : Int) : ((List (List UInt8)) × Int) → Option (((List (List UInt8)) × Int) ⊕ (List (List UInt8)))
  | (out, t11) =>
    if (decide (t11 < t10)) then
      ck (ixOk t11 t9.length) <|
      (impl_observerOf (t9.getD t11.toNat default)).bind fun y_3 =>
      ck (appOk (out.length + ([y_3] : List (List UInt8)).length) 16) <|
      some (.inl ((out ++ ([y_3] : List (List UInt8))), (IntKind.i64.wrap (t11 + 1))))
    else
      some (.inr out)

/-- impl.namesOf -/
noncomputable def impl_namesOf__impl_observerOf (list : List Estimate) : Option (List (List UInt8)) :=
  (whileE (impl_namesOf__impl_observerOf_l1 list (list.length : Int)) (([] : List (List UInt8)), 0)).bind fun y_5 =>
  (hSort y_5).bind fun y_6 =>
  (hCompact y_6).bind fun y_7 =>
  some y_7

/-- impl.count[string] -/
noncomputable def impl_count_string (list : List (List UInt8)) : Option Int :=
  some (list.length : Int)

noncomputable def impl_appendNumber_l1  : ((List UInt8) × Int) → Option (((List UInt8) × Int) ⊕ ((List UInt8) × Int))
  | (b, n) =>
    if (decide (128 ≤ n)) then
      ck (nz 128) <|
      ck (appOk (b.length + ([(toU8 (IntKind.u8.wrap (IntKind.i64.wrap ((n.tmod 128) + 128))))] : List UInt8).length) 1) <|
      some (.inl ((b ++ ([(toU8 (IntKind.u8.wrap (IntKind.i64.wrap ((n.tmod 128) + 128))))] : List UInt8)), (IntKind.i64.wrap (n.tdiv 128))))
    else
      some (.inr (b, n))

/-- impl.appendNumber -/
noncomputable def impl_appendNumber (b : List UInt8) (n : Int) : Option (List UInt8) :=
  (whileE (impl_appendNumber_l1) (b, n)).bind fun y_4 =>
  ck (appOk (y_4.1.length + ([(toU8 (IntKind.u8.wrap y_4.2))] : List UInt8).length) 1) <|
  some (y_4.1 ++ ([(toU8 (IntKind.u8.wrap y_4.2))] : List UInt8))

noncomputable def impl_appendNames_l1 (t11 : List (List UInt8)) (t12 : Int) : ((List UInt8) × Int) → Option (((List UInt8) × Int) ⊕ (List UInt8))
  | (b, t13) =>
    if (decide (t13 < t12)) then
      ck (ixOk t13 t11.length) <|
      (impl_appendNumber b ((t11.getD t13.toNat default).length : Int)).bind fun y_5 =>
      ck (appOk (y_5.length + (t11.getD t13.toNat default).length) 1) <|
      some (.inl ((y_5 ++ (t11.getD t13.toNat default)), (IntKind.i64.wrap (t13 + 1))))
    else
      some (.inr b)

/-- impl.appendNames -/
noncomputable def impl_appendNames (b : List UInt8) (names : List (List UInt8)) : Option (List UInt8) :=
  (impl_count_string names).bind fun y_1 =>
  (impl_appendNumber b y_1).bind fun y_2 =>
  (whileE (impl_appendNames_l1 names (names.length : Int)) (y_2, 0)).bind fun y_7 =>
  some y_7

/-- impl.count[impl.Estimate] -/
noncomputable def impl_count_impl_Estimate (list : List Estimate) : Option Int :=
  some (list.length : Int)

noncomputable def impl_SumOfBytes_l1 (t7 : List UInt8) (t8 : Int) : (Int × Int × Int) → Option ((Int × Int × Int) ⊕ (Int × Int))
  | (s_, t, t9) =>
    if (decide (t9 < t8)) then
      ck (ixOk t9 t7.length) <|
      ck (nz 251) <|
      some (.inl (((IntKind.i64.wrap (s_ + ((t7.getD t9.toNat default).toNat : Int))).tmod 251), ((IntKind.i64.wrap (t + ((IntKind.i64.wrap (s_ + ((t7.getD t9.toNat default).toNat : Int))).tmod 251))).tmod 251), (IntKind.i64.wrap (t9 + 1))))
    else
      some (.inr (s_, t))

/-- impl.SumOfBytes -/
noncomputable def impl_SumOfBytes (b : List UInt8) : Option Int :=
  (whileE (impl_SumOfBytes_l1 b (b.length : Int)) (1, 0, 0)).bind fun y_4 =>
  some (IntKind.i64.wrap ((IntKind.i64.wrap (251 * y_4.2)) + y_4.1))

/-- impl.sealed -/
noncomputable def impl_sealed (b : List UInt8) : Option (List UInt8) :=
  (impl_SumOfBytes b).bind fun y_1 =>
  ck (nz 256) <|
  ck (appOk (b.length + ([(toU8 (IntKind.u8.wrap (IntKind.i64.wrap (y_1.tdiv 256)))), (toU8 (IntKind.u8.wrap (y_1.tmod 256)))] : List UInt8).length) 1) <|
  some (b ++ ([(toU8 (IntKind.u8.wrap (IntKind.i64.wrap (y_1.tdiv 256)))), (toU8 (IntKind.u8.wrap (y_1.tmod 256)))] : List UInt8))

noncomputable def impl_PackEstimates_l2 (stars : List (List UInt8)) (observers : List (List UInt8)) (e_ : Estimate) (t30 : List Estimate) (t31 : Int) (t32 : Int) (t59 : List Int) (t60 : Int) : ((List UInt8) × Int) → Option (((List UInt8) × Int) ⊕ (List UInt8))
  | (b, t61) =>
    if (decide (t61 < t60)) then
      ck (ixOk t61 t59.length) <|
      (impl_appendNumber b (t59.getD t61.toNat default)).bind fun y_17 =>
      some (.inl (y_17, (IntKind.i64.wrap (t61 + 1))))
    else
      some (.inr b)

noncomputable def impl_PackEstimates_l3 (stars : List (List UInt8)) (observers : List (List UInt8)) (e_ : Estimate) (t30 : List Estimate) (t31 : Int) (t32 : Int) (t59 : List Int) (t60 : Int) : ((List UInt8) × Int) → Option (((List UInt8) × Int) ⊕ (List UInt8))
  | (b, t61) =>
    if (decide (t61 < t60)) then
      ck (ixOk t61 t59.length) <|
      (impl_appendNumber b (t59.getD t61.toNat default)).bind fun y_23 =>
      some (.inl (y_23, (IntKind.i64.wrap (t61 + 1))))
    else
      some (.inr b)

noncomputable def impl_PackEstimates_l1 (stars : List (List UInt8)) (observers : List (List UInt8)) (t30 : List Estimate) (t31 : Int) : ((List UInt8) × Int × Int × Int) → Option (((List UInt8) × Int × Int × Int) ⊕ (List UInt8))
  | (b, time, mag, t32) =>
    if (decide (t32 < t31)) then
      ck (ixOk t32 t30.length) <|
      (impl_placeOf observers ((t30.getD t32.toNat default).Observer)).bind fun y_11 =>
      if (t30.getD t32.toNat default).Fainter then
        (impl_placeOf stars ((t30.getD t32.toNat default).Star)).bind fun y_13 =>
        (impl_fold (IntKind.i64.wrap (((t30.getD t32.toNat default).Mag) - mag))).bind fun y_14 =>
        (whileE (impl_PackEstimates_l2 stars observers (t30.getD t32.toNat default) t30 t31 t32 ([(IntKind.i64.wrap (((t30.getD t32.toNat default).Time) - time)), y_13, (IntKind.i64.wrap ((IntKind.i64.wrap (2 * y_11)) + 1)), y_14] : List Int) (([(IntKind.i64.wrap (((t30.getD t32.toNat default).Time) - time)), y_13, (IntKind.i64.wrap ((IntKind.i64.wrap (2 * y_11)) + 1)), y_14] : List Int).length : Int)) (b, 0)).bind fun y_18 =>
        some (.inl (y_18, (t30.getD t32.toNat default).Time, (t30.getD t32.toNat default).Mag, (IntKind.i64.wrap (t32 + 1))))
      else
        (impl_placeOf stars ((t30.getD t32.toNat default).Star)).bind fun y_19 =>
        (impl_fold (IntKind.i64.wrap (((t30.getD t32.toNat default).Mag) - mag))).bind fun y_20 =>
        (whileE (impl_PackEstimates_l3 stars observers (t30.getD t32.toNat default) t30 t31 t32 ([(IntKind.i64.wrap (((t30.getD t32.toNat default).Time) - time)), y_19, (IntKind.i64.wrap (2 * y_11)), y_20] : List Int) (([(IntKind.i64.wrap (((t30.getD t32.toNat default).Time) - time)), y_19, (IntKind.i64.wrap (2 * y_11)), y_20] : List Int).length : Int)) (b, 0)).bind fun y_24 =>
        some (.inl (y_24, (t30.getD t32.toNat default).Time, (t30.getD t32.toNat default).Mag, (IntKind.i64.wrap (t32 + 1))))
    else
      some (.inr b)

/-- impl.PackEstimates -/
noncomputable def impl_PackEstimates (list : List Estimate) : Option ((List UInt8) × Int) :=
  (impl_ValidEstimates list).bind fun y_1 =>
  if (!y_1) then
    some (([] : List UInt8), 1)
  else
    (impl_namesOf__impl_starOf list).bind fun y_3 =>
    (impl_namesOf__impl_observerOf list).bind fun y_4 =>
    (impl_appendNames ([(69 : UInt8)] : List UInt8) y_3).bind fun y_5 =>
    (impl_appendNames y_5 y_4).bind fun y_6 =>
    (impl_count_impl_Estimate list).bind fun y_7 =>
    (impl_appendNumber y_6 y_7).bind fun y_8 =>
    (whileE (impl_PackEstimates_l1 y_3 y_4 list (list.length : Int)) (y_8, 0, 0, 0)).bind fun y_25 =>
    (impl_sealed y_25).bind fun y_26 =>
    some (y_26, 0)

/-- spec.l00In -/
noncomputable def spec_l00In (n : Int) (low : Int) (high : Int) : Option Bool :=
  some ((decide (low ≤ n)) && (decide (n ≤ high)))

/-- spec.l06Time -/
noncomputable def spec_l06Time (n : Int) : Option Bool :=
  (spec_l00In n 0 10000000).bind fun y_1 =>
  some y_1

/-- spec.l01Small -/
noncomputable def spec_l01Small (c : UInt8) : Option Bool :=
  some ((decide (97 ≤ (c.toNat : Int))) && (decide ((c.toNat : Int) ≤ 122)))

/-- spec.l01Digit -/
noncomputable def spec_l01Digit (c : UInt8) : Option Bool :=
  some ((decide (48 ≤ (c.toNat : Int))) && (decide ((c.toNat : Int) ≤ 57)))

noncomputable def spec_IsName_l1 (s_ : List UInt8) : Int → Option (Int ⊕ (Unit ⊕ Bool))
  | i =>
    if (decide (i < (s_.length : Int))) then
      ck (ixOk i s_.length) <|
      (spec_l01Small (s_.getD i.toNat 0)).bind fun y_6 =>
      ck (!(!y_6) || (spec_l01Digit (s_.getD i.toNat 0)).isSome) <|
      if (((!y_6) && (!((spec_l01Digit (s_.getD i.toNat 0)).getD default))) && (!(((s_.getD i.toNat 0).toNat : Int) == 45))) then
        some (.inr (.inr false))
      else
        some (.inl (IntKind.i64.wrap (i + 1)))
    else
      some (.inr (.inl ()))

/-- spec.IsName -/
noncomputable def spec_IsName (s_ : List UInt8) : Option Bool :=
  ck (!(!((s_ == ([] : List UInt8)) || (decide (12 < (s_.length : Int))))) || ixOk 0 s_.length) <|
  ck (!(!((s_ == ([] : List UInt8)) || (decide (12 < (s_.length : Int))))) || (spec_l01Small (s_.getD 0 0)).isSome) <|
  if (((s_ == ([] : List UInt8)) || (decide (12 < (s_.length : Int)))) || (!((spec_l01Small (s_.getD 0 0)).getD default))) then
    some false
  else
    (whileE (spec_IsName_l1 s_) 0).bind fun y_9 =>
    match y_9 with
    | .inl y_9a =>
      some true
    | .inr y_9b =>
      some y_9b

/-- spec.l02Mag -/
noncomputable def spec_l02Mag (m : Int) : Option Bool :=
  (spec_l00In m (-2000) 20000).bind fun y_1 =>
  some y_1

/-- spec.l06One -/
noncomputable def spec_l06One (e_ : Estimate) : Option Bool :=
  (spec_l06Time e_.Time).bind fun y_1 =>
  ck (!y_1 || (spec_IsName e_.Star).isSome) <|
  ck (!(y_1 && ((spec_IsName e_.Star).getD default)) || (spec_IsName e_.Observer).isSome) <|
  ck (!((y_1 && ((spec_IsName e_.Star).getD default)) && ((spec_IsName e_.Observer).getD default)) || (spec_l02Mag e_.Mag).isSome) <|
  some (((y_1 && ((spec_IsName e_.Star).getD default)) && ((spec_IsName e_.Observer).getD default)) && ((spec_l02Mag e_.Mag).getD default))

noncomputable def spec_l06Ok_l1 (list : List Estimate) : Int → Option (Int ⊕ (Unit ⊕ Bool))
  | i =>
    if (decide (i < (list.length : Int))) then
      ck (ixOk i list.length) <|
      (spec_l06One (list.getD i.toNat default)).bind fun y_3 =>
      ck (!((!(!y_3)) && (decide (0 < i))) || ixOk (IntKind.i64.wrap (i - 1)) list.length) <|
      ck (!((!(!y_3)) && (decide (0 < i))) || (spec_l06Before (list.getD (IntKind.i64.wrap (i - 1)).toNat default) (list.getD i.toNat default)).isSome) <|
      if ((!y_3) || ((decide (0 < i)) && (!((spec_l06Before (list.getD (IntKind.i64.wrap (i - 1)).toNat default) (list.getD i.toNat default)).getD default)))) then
        some (.inr (.inr false))
      else
        some (.inl (IntKind.i64.wrap (i + 1)))
    else
      some (.inr (.inl ()))

/-- spec.l06Ok -/
noncomputable def spec_l06Ok (list : List Estimate) : Option Bool :=
  (whileE (spec_l06Ok_l1 list) 0).bind fun y_7 =>
  match y_7 with
  | .inl y_7a =>
    some (decide ((list.length : Int) ≤ 100))
  | .inr y_7b =>
    some y_7b

noncomputable def spec_l06PutName_l1 (list : List (List UInt8)) (name : List UInt8) : Int → Option (Int ⊕ Int)
  | k =>
    ck (!(decide (0 < k)) || ixOk (IntKind.i64.wrap (k - 1)) list.length) <|
    if ((decide (0 < k)) && (!(Op.bytesLess (list.getD (IntKind.i64.wrap (k - 1)).toNat default) name || (list.getD (IntKind.i64.wrap (k - 1)).toNat default) == name))) then
      some (.inl (IntKind.i64.wrap (k - 1)))
    else
      some (.inr k)

/-- spec.l06PutName -/
noncomputable def spec_l06PutName (list : List (List UInt8)) (name : List UInt8) : Option (List (List UInt8)) :=
  (whileE (spec_l06PutName_l1 list name) (list.length : Int)).bind fun y_3 =>
  ck (!(decide (0 < y_3)) || ixOk (IntKind.i64.wrap (y_3 - 1)) list.length) <|
  if ((decide (0 < y_3)) && ((list.getD (IntKind.i64.wrap (y_3 - 1)).toNat default) == name)) then
    some list
  else
    ck (cutOk 0 y_3 list.length) <|
    ck (appOk (([] : List (List UInt8)).length + (cut list 0 y_3).length) 16) <|
    ck (appOk ((([] : List (List UInt8)) ++ (cut list 0 y_3)).length + ([name] : List (List UInt8)).length) 16) <|
    ck (cutOk y_3 (list.length : Int) list.length) <|
    ck (appOk (((([] : List (List UInt8)) ++ (cut list 0 y_3)) ++ ([name] : List (List UInt8))).length + (cut list y_3 (list.length : Int)).length) 16) <|
    some (((([] : List (List UInt8)) ++ (cut list 0 y_3)) ++ ([name] : List (List UInt8))) ++ (cut list y_3 (list.length : Int)))

noncomputable def spec_l25Names_l1 (list : List Estimate) (star : Bool) : ((List (List UInt8)) × Int) → Option (((List (List UInt8)) × Int) ⊕ (List (List UInt8)))
  | (out, i) =>
    if (decide (i < (list.length : Int))) then
      if star then
        ck (ixOk i list.length) <|
        (spec_l06PutName out ((list.getD i.toNat default).Star)).bind fun y_4 =>
        some (.inl (y_4, (IntKind.i64.wrap (i + 1))))
      else
        ck (ixOk i list.length) <|
        (spec_l06PutName out ((list.getD i.toNat default).Observer)).bind fun y_6 =>
        some (.inl (y_6, (IntKind.i64.wrap (i + 1))))
    else
      some (.inr out)

/-- spec.l25Names -/
noncomputable def spec_l25Names (list : List Estimate) (star : Bool) : Option (List (List UInt8)) :=
  (whileE (spec_l25Names_l1 list star) (([] : List (List UInt8)), 0)).bind fun y_7 =>
  some y_7

noncomputable def spec_l25Number_l1  : (Int × (List UInt8)) → Option ((Int × (List UInt8)) ⊕ (Int × (List UInt8)))
  | (n, out) =>
    if (decide (128 ≤ n)) then
      ck (nz 128) <|
      ck (appOk (out.length + ([(toU8 (IntKind.u8.wrap (IntKind.i64.wrap ((n.tmod 128) + 128))))] : List UInt8).length) 1) <|
      some (.inl ((IntKind.i64.wrap (n.tdiv 128)), (out ++ ([(toU8 (IntKind.u8.wrap (IntKind.i64.wrap ((n.tmod 128) + 128))))] : List UInt8))))
    else
      some (.inr (n, out))

/-- spec.l25Number -/
noncomputable def spec_l25Number (n : Int) : Option (List UInt8) :=
  (whileE (spec_l25Number_l1) (n, ([] : List UInt8))).bind fun y_4 =>
  ck (appOk (y_4.2.length + ([(toU8 (IntKind.u8.wrap y_4.1))] : List UInt8).length) 1) <|
  some (y_4.2 ++ ([(toU8 (IntKind.u8.wrap y_4.1))] : List UInt8))

noncomputable def spec_l25PutNames_l1 (names : List (List UInt8)) : ((List UInt8) × Int) → Option (((List UInt8) × Int) ⊕ (List UInt8))
  | (out, i) =>
    if (decide (i < (names.length : Int))) then
      ck (ixOk i names.length) <|
      (spec_l25Number ((names.getD i.toNat default).length : Int)).bind fun y_5 =>
      ck (appOk (out.length + y_5.length) 1) <|
      ck (appOk ((out ++ y_5).length + (names.getD i.toNat default).length) 1) <|
      some (.inl (((out ++ y_5) ++ (names.getD i.toNat default)), (IntKind.i64.wrap (i + 1))))
    else
      some (.inr out)

/-- spec.l25PutNames -/
noncomputable def spec_l25PutNames (out : List UInt8) (names : List (List UInt8)) : Option (List UInt8) :=
  (spec_l25Number (names.length : Int)).bind fun y_1 =>
  ck (appOk (out.length + y_1.length) 1) <|
  (whileE (spec_l25PutNames_l1 names) ((out ++ y_1), 0)).bind fun y_8 =>
  some y_8

noncomputable def spec_l25Find_l1 (list : List (List UInt8)) (name : List UInt8) : Int → Option (Int ⊕ (Unit ⊕ Int))
  | i =>
    if (decide (i < (list.length : Int))) then
      ck (ixOk i list.length) <|
      if ((list.getD i.toNat default) == name) then
        some (.inr (.inr i))
      else
        some (.inl (IntKind.i64.wrap (i + 1)))
    else
      some (.inr (.inl ()))

/-- spec.l25Find -/
noncomputable def spec_l25Find (list : List (List UInt8)) (name : List UInt8) : Option Int :=
  (whileE (spec_l25Find_l1 list name) 0).bind fun y_4 =>
  match y_4 with
  | .inl y_4a =>
    some (-1)
  | .inr y_4b =>
    some y_4b

/-- spec.l25Fold -/
noncomputable def spec_l25Fold (n : Int) : Option Int :=
  if (decide (n < 0)) then
    some (IntKind.i64.wrap ((IntKind.i64.wrap ((-2) * n)) - 1))
  else
    some (IntKind.i64.wrap (2 * n))

noncomputable def spec_l25Sum_l1 (b : List UInt8) : (Int × Int × Int) → Option ((Int × Int × Int) ⊕ (Int × Int))
  | (sum, all, i) =>
    if (decide (i < (b.length : Int))) then
      ck (ixOk i b.length) <|
      ck (nz 251) <|
      some (.inl (((IntKind.i64.wrap (sum + ((b.getD i.toNat default).toNat : Int))).tmod 251), ((IntKind.i64.wrap (all + ((IntKind.i64.wrap (sum + ((b.getD i.toNat default).toNat : Int))).tmod 251))).tmod 251), (IntKind.i64.wrap (i + 1))))
    else
      some (.inr (sum, all))

/-- spec.l25Sum -/
noncomputable def spec_l25Sum (b : List UInt8) : Option Int :=
  (whileE (spec_l25Sum_l1 b) (1, 0, 0)).bind fun y_4 =>
  some (IntKind.i64.wrap ((IntKind.i64.wrap (251 * y_4.2)) + y_4.1))

/-- spec.l25Close -/
noncomputable def spec_l25Close (out : List UInt8) : Option (List UInt8) :=
  (spec_l25Sum out).bind fun y_1 =>
  ck (nz 256) <|
  ck (appOk (out.length + ([(toU8 (IntKind.u8.wrap (IntKind.i64.wrap (y_1.tdiv 256))))] : List UInt8).length) 1) <|
  ck (appOk ((out ++ ([(toU8 (IntKind.u8.wrap (IntKind.i64.wrap (y_1.tdiv 256))))] : List UInt8)).length + ([(toU8 (IntKind.u8.wrap (y_1.tmod 256)))] : List UInt8).length) 1) <|
  some ((out ++ ([(toU8 (IntKind.u8.wrap (IntKind.i64.wrap (y_1.tdiv 256))))] : List UInt8)) ++ ([(toU8 (IntKind.u8.wrap (y_1.tmod 256)))] : List UInt8))

noncomputable def spec_l25Estimates_l1 (list : List Estimate) (stars : List (List UInt8)) (people : List (List UInt8)) : ((List UInt8) × Int × Int × Int) → Option (((List UInt8) × Int × Int × Int) ⊕ (List UInt8))
  | (out, time, mag, i) =>
    if (decide (i < (list.length : Int))) then
      ck (ixOk i list.length) <|
      (spec_l25Number (IntKind.i64.wrap (((list.getD i.toNat default).Time) - time))).bind fun y_9 =>
      ck (appOk (out.length + y_9.length) 1) <|
      (spec_l25Find stars ((list.getD i.toNat default).Star)).bind fun y_11 =>
      (spec_l25Number y_11).bind fun y_12 =>
      ck (appOk ((out ++ y_9).length + y_12.length) 1) <|
      (spec_l25Find people ((list.getD i.toNat default).Observer)).bind fun y_14 =>
      if (list.getD i.toNat default).Fainter then
        (spec_l25Number (IntKind.i64.wrap ((IntKind.i64.wrap (2 * y_14)) + 1))).bind fun y_16 =>
        ck (appOk (((out ++ y_9) ++ y_12).length + y_16.length) 1) <|
        (spec_l25Fold (IntKind.i64.wrap (((list.getD i.toNat default).Mag) - mag))).bind fun y_18 =>
        (spec_l25Number y_18).bind fun y_19 =>
        ck (appOk ((((out ++ y_9) ++ y_12) ++ y_16).length + y_19.length) 1) <|
        some (.inl (((((out ++ y_9) ++ y_12) ++ y_16) ++ y_19), (list.getD i.toNat default).Time, (list.getD i.toNat default).Mag, (IntKind.i64.wrap (i + 1))))
      else
        (spec_l25Number (IntKind.i64.wrap (2 * y_14))).bind fun y_21 =>
        ck (appOk (((out ++ y_9) ++ y_12).length + y_21.length) 1) <|
        (spec_l25Fold (IntKind.i64.wrap (((list.getD i.toNat default).Mag) - mag))).bind fun y_23 =>
        (spec_l25Number y_23).bind fun y_24 =>
        ck (appOk ((((out ++ y_9) ++ y_12) ++ y_21).length + y_24.length) 1) <|
        some (.inl (((((out ++ y_9) ++ y_12) ++ y_21) ++ y_24), (list.getD i.toNat default).Time, (list.getD i.toNat default).Mag, (IntKind.i64.wrap (i + 1))))
    else
      some (.inr out)

/-- spec.l25Estimates -/
noncomputable def spec_l25Estimates (list : List Estimate) : Option (List UInt8) :=
  (spec_l25Names list true).bind fun y_1 =>
  (spec_l25Names list false).bind fun y_2 =>
  (spec_l25PutNames ([(69 : UInt8)] : List UInt8) y_1).bind fun y_3 =>
  (spec_l25PutNames y_3 y_2).bind fun y_4 =>
  (spec_l25Number (list.length : Int)).bind fun y_5 =>
  ck (appOk (y_4.length + y_5.length) 1) <|
  (whileE (spec_l25Estimates_l1 list y_1 y_2) ((y_4 ++ y_5), 0, 0, 0)).bind fun y_26 =>
  (spec_l25Close y_26).bind fun y_27 =>
  some y_27

/-- spec.PackEstimates -/
noncomputable def spec_PackEstimates (list : List Estimate) : Option ((List UInt8) × Int) :=
  (spec_l06Ok list).bind fun y_1 =>
  if (!y_1) then
    some (([] : List UInt8), 1)
  else
    (spec_l25Estimates list).bind fun y_3 =>
    some (y_3, 0)

noncomputable def spec_l08Draw_l1  : (L00Src × (List Point) × Int × Int) → Option ((L00Src × (List Point) × Int × Int) ⊕ (L00Src × (List Point)))
  | (s_, out, at_, k) =>
    if (decide (0 < k)) then
      (spec_l00Src_pick s_ 100).bind fun y_4 =>
      ck (appOk (out.length + ([(Point.mk at_ (IntKind.i64.wrap (8000 + (IntKind.i64.wrap (20 * y_4.1)))))] : List Point).length) 16) <|
      (spec_l00Src_pick y_4.2 40).bind fun y_6 =>
      some (.inl (y_6.2, (out ++ ([(Point.mk at_ (IntKind.i64.wrap (8000 + (IntKind.i64.wrap (20 * y_4.1)))))] : List Point)), (IntKind.i64.wrap (at_ + (IntKind.i64.wrap (100 * (IntKind.i64.wrap (1 + y_6.1)))))), (IntKind.i64.wrap (k - 1))))
    else
      some (.inr (s_, out))

/-- spec.l08Draw -/
noncomputable def spec_l08Draw (s_ : L00Src) (most : Int) : Option ((List Point) × L00Src) :=
  (spec_l00Src_pick s_ 9).bind fun y_1 =>
  (spec_l00Src_pick y_1.2 (IntKind.i64.wrap (most + 1))).bind fun y_2 =>
  (whileE (spec_l08Draw_l1) (y_2.2, ([] : List Point), (IntKind.i64.wrap (1000 * y_1.1)), y_2.1)).bind fun y_7 =>
  some (y_7.2, y_7.1)

noncomputable def spec_l08Bent_l1 (s_ : L00Src) : ((List Point) × Int) → Option (((List Point) × Int) ⊕ (List Point))
  | (curve, k) =>
    if (decide (0 < k)) then
      ck (appOk (curve.length + ([(Point.mk (IntKind.i64.wrap (10 * (curve.length : Int))) (IntKind.i64.wrap (9000 + k)))] : List Point).length) 16) <|
      some (.inl ((curve ++ ([(Point.mk (IntKind.i64.wrap (10 * (curve.length : Int))) (IntKind.i64.wrap (9000 + k)))] : List Point)), (IntKind.i64.wrap (k - 1))))
    else
      some (.inr curve)

/-- spec.l08Bent -/
noncomputable def spec_l08Bent (s_ : L00Src) : Option ((List Point) × L00Src) :=
  (spec_l08Draw s_ 12).bind fun y_1 =>
  (spec_l00Src_pick y_1.2 20).bind fun y_2 =>
  if (y_2.1 == 0) then
    (spec_l00Src_among y_2.2 ([(-1), 0, 10000000, 10000001] : List Int)).bind fun y_4 =>
    ck (appOk (y_1.1.length + ([(Point.mk y_4.1 9000)] : List Point).length) 16) <|
    some ((y_1.1 ++ ([(Point.mk y_4.1 9000)] : List Point)), y_4.2)
  else
    if (y_2.1 == 1) then
      if (decide (0 < (y_1.1.length : Int))) then
        (spec_l00Src_pick y_2.2 (y_1.1.length : Int)).bind fun y_8 =>
        (spec_l02Bent y_8.2).bind fun y_9 =>
        ck (ixOk y_8.1 y_1.1.length) <|
        some ((y_1.1.set y_8.1.toNat (Point.mk ((y_1.1.getD y_8.1.toNat default).Time) y_9.1)), y_9.2)
      else
        some (y_1.1, y_2.2)
    else
      if (y_2.1 == 2) then
        (spec_l00Src_pick y_2.2 2).bind fun y_12 =>
        (whileE (spec_l08Bent_l1 y_12.2) (([] : List Point), (IntKind.i64.wrap (100 + y_12.1)))).bind fun y_15 =>
        some (y_15, y_12.2)
      else
        some (y_1.1, y_2.2)

/-- spec.DrawPackCurve -/
noncomputable def spec_DrawPackCurve (code : List UInt8) : Option (List Point) :=
  (spec_l00From code).bind fun y_1 =>
  (spec_l08Bent y_1).bind fun y_2 =>
  some y_2.1

noncomputable def impl_ValidCurve_l1 (curve : List Point) (t8 : List Point) (t9 : Int) : Int → Option (Int ⊕ (Unit ⊕ Bool))
  | t10 =>
    if (decide (t10 < t9)) then
      ck (ixOk t10 t8.length) <|
      (impl_ValidTime ((t8.getD t10.toNat default).Time)).bind fun y_4 =>
      ck (!(!(!y_4)) || (impl_ValidMag ((t8.getD t10.toNat default).Mag)).isSome) <|
      ck (!((!((!y_4) || (!((impl_ValidMag ((t8.getD t10.toNat default).Mag)).getD default)))) && (decide (0 < t10))) || ixOk (IntKind.i64.wrap (t10 - 1)) curve.length) <|
      if (((!y_4) || (!((impl_ValidMag ((t8.getD t10.toNat default).Mag)).getD default))) || ((decide (0 < t10)) && (decide (((t8.getD t10.toNat default).Time) ≤ ((curve.getD (IntKind.i64.wrap (t10 - 1)).toNat default).Time))))) then
        some (.inr (.inr false))
      else
        some (.inl (IntKind.i64.wrap (t10 + 1)))
    else
      some (.inr (.inl ()))

/-- impl.ValidCurve -/
noncomputable def impl_ValidCurve (curve : List Point) : Option Bool :=
  if (decide (100 < (curve.length : Int))) then
    some false
  else
    (whileE (impl_ValidCurve_l1 curve curve (curve.length : Int)) 0).bind fun y_8 =>
    match y_8 with
    | .inl y_8a =>
      some true
    | .inr y_8b =>
      some y_8b

/-- impl.count[impl.Point] -/
noncomputable def impl_count_impl_Point (list : List Point) : Option Int :=
  some (list.length : Int)

noncomputable def impl_PackCurve_l1 (t16 : List Point) (t17 : Int) : ((List UInt8) × Int × Int × Int) → Option (((List UInt8) × Int × Int × Int) ⊕ (List UInt8))
  | (b, time, mag, t18) =>
    if (decide (t18 < t17)) then
      ck (ixOk t18 t16.length) <|
      (impl_appendNumber b (IntKind.i64.wrap (((t16.getD t18.toNat default).Time) - time))).bind fun y_7 =>
      (impl_fold (IntKind.i64.wrap (((t16.getD t18.toNat default).Mag) - mag))).bind fun y_8 =>
      (impl_appendNumber y_7 y_8).bind fun y_9 =>
      some (.inl (y_9, (t16.getD t18.toNat default).Time, (t16.getD t18.toNat default).Mag, (IntKind.i64.wrap (t18 + 1))))
    else
      some (.inr b)

/-- impl.PackCurve -/
noncomputable def impl_PackCurve (curve : List Point) : Option ((List UInt8) × Int) :=
  (impl_ValidCurve curve).bind fun y_1 =>
  if (!y_1) then
    some (([] : List UInt8), 1)
  else
    (impl_count_impl_Point curve).bind fun y_3 =>
    (impl_appendNumber ([(67 : UInt8)] : List UInt8) y_3).bind fun y_4 =>
    (whileE (impl_PackCurve_l1 curve (curve.length : Int)) (y_4, 0, 0, 0)).bind fun y_10 =>
    (impl_sealed y_10).bind fun y_11 =>
    some (y_11, 0)

noncomputable def spec_l08Ok_l1 (curve : List Point) : Int → Option (Int ⊕ (Unit ⊕ Bool))
  | i =>
    if (decide (i < (curve.length : Int))) then
      ck (ixOk i curve.length) <|
      (spec_l06Time ((curve.getD i.toNat default).Time)).bind fun y_3 =>
      ck (!(!(!y_3)) || (spec_l02Mag ((curve.getD i.toNat default).Mag)).isSome) <|
      ck (!((!((!y_3) || (!((spec_l02Mag ((curve.getD i.toNat default).Mag)).getD default)))) && (decide (0 < i))) || ixOk (IntKind.i64.wrap (i - 1)) curve.length) <|
      if (((!y_3) || (!((spec_l02Mag ((curve.getD i.toNat default).Mag)).getD default))) || ((decide (0 < i)) && (decide (((curve.getD i.toNat default).Time) ≤ ((curve.getD (IntKind.i64.wrap (i - 1)).toNat default).Time))))) then
        some (.inr (.inr false))
      else
        some (.inl (IntKind.i64.wrap (i + 1)))
    else
      some (.inr (.inl ()))

/-- spec.l08Ok -/
noncomputable def spec_l08Ok (curve : List Point) : Option Bool :=
  (whileE (spec_l08Ok_l1 curve) 0).bind fun y_7 =>
  match y_7 with
  | .inl y_7a =>
    some (decide ((curve.length : Int) ≤ 100))
  | .inr y_7b =>
    some y_7b

noncomputable def spec_l25Curve_l1 (curve : List Point) : ((List UInt8) × Int × Int × Int) → Option (((List UInt8) × Int × Int × Int) ⊕ (List UInt8))
  | (out, time, mag, i) =>
    if (decide (i < (curve.length : Int))) then
      ck (ixOk i curve.length) <|
      (spec_l25Number (IntKind.i64.wrap (((curve.getD i.toNat default).Time) - time))).bind fun y_5 =>
      ck (appOk (out.length + y_5.length) 1) <|
      (spec_l25Fold (IntKind.i64.wrap (((curve.getD i.toNat default).Mag) - mag))).bind fun y_7 =>
      (spec_l25Number y_7).bind fun y_8 =>
      ck (appOk ((out ++ y_5).length + y_8.length) 1) <|
      some (.inl (((out ++ y_5) ++ y_8), (curve.getD i.toNat default).Time, (curve.getD i.toNat default).Mag, (IntKind.i64.wrap (i + 1))))
    else
      some (.inr out)

/-- spec.l25Curve -/
noncomputable def spec_l25Curve (curve : List Point) : Option (List UInt8) :=
  (spec_l25Number (curve.length : Int)).bind fun y_1 =>
  ck (appOk (([(67 : UInt8)] : List UInt8).length + y_1.length) 1) <|
  (whileE (spec_l25Curve_l1 curve) ((([(67 : UInt8)] : List UInt8) ++ y_1), 0, 0, 0)).bind fun y_10 =>
  (spec_l25Close y_10).bind fun y_11 =>
  some y_11

/-- spec.PackCurve -/
noncomputable def spec_PackCurve (curve : List Point) : Option ((List UInt8) × Int) :=
  (spec_l08Ok curve).bind fun y_1 =>
  if (!y_1) then
    some (([] : List UInt8), 1)
  else
    (spec_l25Curve curve).bind fun y_3 =>
    some (y_3, 0)

/-- spec.l25Spoil -/
noncomputable def spec_l25Spoil (s_ : L00Src) (b : List UInt8) : Option ((List UInt8) × L00Src) :=
  ck (appOk (([] : List UInt8).length + b.length) 1) <|
  if (decide (((([] : List UInt8) ++ b).length : Int) < 3)) then
    some ((([] : List UInt8) ++ b), s_)
  else
    (spec_l00Src_pick s_ 6).bind fun y_3 =>
    if (y_3.1 == 0) then
      (spec_l00Src_pick y_3.2 ((([] : List UInt8) ++ b).length : Int)).bind fun y_5 =>
      ck (ixOk y_5.1 ((([] : List UInt8) ++ b).length)) <|
      (spec_l00Src_pick y_5.2 8).bind fun y_7 =>
      ck (shOk (IntKind.u64.wrap y_7.1)) <|
      some (((([] : List UInt8) ++ b).set y_5.1.toNat (toU8 (IntKind.u8.wrap (BitVec.ofInt (IntKind.bits .u8) (((([] : List UInt8) ++ b).getD y_5.1.toNat default).toNat : Int) ^^^ BitVec.ofInt (IntKind.bits .u8) (IntKind.u8.wrap (1 * 2 ^ (min (IntKind.u64.wrap y_7.1).toNat 8)))).toNat))), y_7.2)
    else
      if (y_3.1 == 1) then
        (spec_l00Src_pick y_3.2 ((([] : List UInt8) ++ b).length : Int)).bind fun y_10 =>
        ck (cutOk 0 y_10.1 ((([] : List UInt8) ++ b).length)) <|
        some (((([] : List UInt8) ++ b).take y_10.1.toNat), y_10.2)
      else
        if (y_3.1 == 2) then
          (spec_l00Src_pick y_3.2 256).bind fun y_13 =>
          ck (appOk ((([] : List UInt8) ++ b).length + ([(toU8 (IntKind.u8.wrap y_13.1))] : List UInt8).length) 1) <|
          some (((([] : List UInt8) ++ b) ++ ([(toU8 (IntKind.u8.wrap y_13.1))] : List UInt8)), y_13.2)
        else
          if (y_3.1 == 3) then
            ck (cutOk 0 (IntKind.i64.wrap (((([] : List UInt8) ++ b).length : Int) - 2)) ((([] : List UInt8) ++ b).length)) <|
            (spec_l00Src_pick y_3.2 (IntKind.i64.wrap (((([] : List UInt8) ++ b).length : Int) - 2))).bind fun y_17 =>
            ck (ixOk y_17.1 (((([] : List UInt8) ++ b).take (IntKind.i64.wrap (((([] : List UInt8) ++ b).length : Int) - 2)).toNat).length)) <|
            (spec_l00Src_pick y_17.2 8).bind fun y_19 =>
            ck (shOk (IntKind.u64.wrap y_19.1)) <|
            (spec_l25Close (((([] : List UInt8) ++ b).take (IntKind.i64.wrap (((([] : List UInt8) ++ b).length : Int) - 2)).toNat).set y_17.1.toNat (toU8 (IntKind.u8.wrap (BitVec.ofInt (IntKind.bits .u8) ((((([] : List UInt8) ++ b).take (IntKind.i64.wrap (((([] : List UInt8) ++ b).length : Int) - 2)).toNat).getD y_17.1.toNat default).toNat : Int) ^^^ BitVec.ofInt (IntKind.bits .u8) (IntKind.u8.wrap (1 * 2 ^ (min (IntKind.u64.wrap y_19.1).toNat 8)))).toNat)))).bind fun y_21 =>
            some (y_21, y_19.2)
          else
            if (y_3.1 == 4) then
              ck (cutOk 0 (IntKind.i64.wrap (((([] : List UInt8) ++ b).length : Int) - 2)) ((([] : List UInt8) ++ b).length)) <|
              (spec_l00Src_pick y_3.2 256).bind fun y_24 =>
              ck (appOk (((([] : List UInt8) ++ b).take (IntKind.i64.wrap (((([] : List UInt8) ++ b).length : Int) - 2)).toNat).length + ([(toU8 (IntKind.u8.wrap y_24.1))] : List UInt8).length) 1) <|
              (spec_l25Close (((([] : List UInt8) ++ b).take (IntKind.i64.wrap (((([] : List UInt8) ++ b).length : Int) - 2)).toNat) ++ ([(toU8 (IntKind.u8.wrap y_24.1))] : List UInt8))).bind fun y_26 =>
              some (y_26, y_24.2)
            else
              some ((([] : List UInt8) ++ b), y_3.2)

/-- spec.DrawUnpackEstimates -/
noncomputable def spec_DrawUnpackEstimates (code : List UInt8) : Option (List UInt8) :=
  (spec_l00From code).bind fun y_1 =>
  (spec_l06Draw y_1 6).bind fun y_2 =>
  (spec_l25Estimates y_2.1).bind fun y_3 =>
  (spec_l00Src_one y_2.2 2).bind fun y_4 =>
  if y_4.1 then
    (spec_l25Spoil y_4.2 y_3).bind fun y_6 =>
    some y_6.1
  else
    some y_3

/-- impl.UnpackEstimates$1 -/
noncomputable def impl_UnpackEstimates_c1 (kind : UInt8) : Option Bool :=
  some ((kind.toNat : Int) == 69)

/-- impl.checkPacked -/
noncomputable def impl_checkPacked__impl_UnpackEstimates_c1 (b : List UInt8) : Option Int :=
  ck (!(!((decide ((b.length : Int) < 3)) || (decide (8000 < (b.length : Int))))) || ixOk 0 b.length) <|
  ck (!(!((decide ((b.length : Int) < 3)) || (decide (8000 < (b.length : Int))))) || (impl_UnpackEstimates_c1 (b.getD 0 default)).isSome) <|
  if (((decide ((b.length : Int) < 3)) || (decide (8000 < (b.length : Int)))) || (!((impl_UnpackEstimates_c1 (b.getD 0 default)).getD default))) then
    some 8
  else
    ck (cutOk 0 (IntKind.i64.wrap ((b.length : Int) - 2)) b.length) <|
    (impl_SumOfBytes (cut b 0 (IntKind.i64.wrap ((b.length : Int) - 2)))).bind fun y_5 =>
    ck (ixOk (IntKind.i64.wrap ((b.length : Int) - 2)) b.length) <|
    ck (ixOk (IntKind.i64.wrap ((IntKind.i64.wrap ((b.length : Int) - 2)) + 1)) b.length) <|
    if (!(y_5 == (IntKind.i64.wrap ((IntKind.i64.wrap (((b.getD (IntKind.i64.wrap ((b.length : Int) - 2)).toNat default).toNat : Int) * 256)) + ((b.getD (IntKind.i64.wrap ((IntKind.i64.wrap ((b.length : Int) - 2)) + 1)).toNat default).toNat : Int))))) then
      some 9
    else
      some 0

noncomputable def impl_ReadNumber_l1 (b : List UInt8) : (Int × Int) → Option ((Int × Int) ⊕ (Unit ⊕ (Int × Int × Bool)))
  | (n, i) =>
    if ((decide (i < (b.length : Int))) && (decide (i < 9))) then
      ck (ixOk i b.length) <|
      ck (shOk (IntKind.i64.wrap (7 * i))) <|
      if (decide (((b.getD i.toNat default).toNat : Int) < 128)) then
        if ((((b.getD i.toNat default).toNat : Int) == 0) && (decide (0 < i))) then
          some (.inr (.inr (0, 0, false)))
        else
          some (.inr (.inr ((IntKind.i64.wrap (BitVec.ofInt (IntKind.bits .i64) n ||| BitVec.ofInt (IntKind.bits .i64) (IntKind.i64.wrap ((IntKind.i64.wrap (IntKind.u8.wrap (BitVec.ofInt (IntKind.bits .u8) ((b.getD i.toNat default).toNat : Int) &&& BitVec.ofInt (IntKind.bits .u8) 127).toNat)) * 2 ^ (min (IntKind.i64.wrap (7 * i)).toNat 64)))).toNat), (IntKind.i64.wrap (i + 1)), true)))
      else
        some (.inl ((IntKind.i64.wrap (BitVec.ofInt (IntKind.bits .i64) n ||| BitVec.ofInt (IntKind.bits .i64) (IntKind.i64.wrap ((IntKind.i64.wrap (IntKind.u8.wrap (BitVec.ofInt (IntKind.bits .u8) ((b.getD i.toNat default).toNat : Int) &&& BitVec.ofInt (IntKind.bits .u8) 127).toNat)) * 2 ^ (min (IntKind.i64.wrap (7 * i)).toNat 64)))).toNat), (IntKind.i64.wrap (i + 1))))
    else
      some (.inr (.inl ()))

/-- impl.ReadNumber -/
noncomputable def impl_ReadNumber (b : List UInt8) : Option (Int × Int × Bool) :=
  (whileE (impl_ReadNumber_l1 b) (0, 0)).bind fun y_6 =>
  match y_6 with
  | .inl y_6a =>
    some (0, 0, false)
  | .inr y_6b =>
    some (y_6b.1, y_6b.2.1, y_6b.2.2)

/-- (*impl.unpacker).number -/
noncomputable def impl_unpacker_number (u : Unpacker) (most : Int) : Option (Int × Unpacker) :=
  (impl_ReadNumber u.rest_).bind fun y_1 =>
  if ((u.bad_ || (!y_1.2.2)) || (decide (most < y_1.1))) then
    some (0, (Unpacker.mk u.rest_ true))
  else
    ck (cutOk y_1.2.1 (u.rest_.length : Int) u.rest_.length) <|
    some (y_1.1, (Unpacker.mk (cut u.rest_ y_1.2.1 (u.rest_.length : Int)) u.bad_))

noncomputable def impl_unpacker_names_l1 (t7 : Int) : (Unpacker × (List (List UInt8)) × Int) → Option ((Unpacker × (List (List UInt8)) × Int) ⊕ ((Unpacker × (List (List UInt8))) ⊕ (Unpacker × (List (List UInt8)))))
  | (u, out, t8) =>
    if (decide (t8 < t7)) then
      (impl_unpacker_number u 12).bind fun y_3 =>
      if (y_3.2.bad_ || (decide ((y_3.2.rest_.length : Int) < y_3.1))) then
        some (.inr (.inr ((Unpacker.mk y_3.2.rest_ true), ([] : List (List UInt8)))))
      else
        ck (cutOk 0 y_3.1 y_3.2.rest_.length) <|
        ck (appOk (out.length + ([(cut y_3.2.rest_ 0 y_3.1)] : List (List UInt8)).length) 16) <|
        ck (cutOk y_3.1 (y_3.2.rest_.length : Int) y_3.2.rest_.length) <|
        some (.inl ((Unpacker.mk (cut y_3.2.rest_ y_3.1 (y_3.2.rest_.length : Int)) y_3.2.bad_), (out ++ ([(cut y_3.2.rest_ 0 y_3.1)] : List (List UInt8))), (IntKind.i64.wrap (t8 + 1))))
    else
      some (.inr (.inl (u, out)))

/-- (*impl.unpacker).names -/
noncomputable def impl_unpacker_names (u : Unpacker) : Option ((List (List UInt8)) × Unpacker) :=
  (impl_unpacker_number u 100).bind fun y_1 =>
  (whileE (impl_unpacker_names_l1 y_1.1) (y_1.2, ([] : List (List UInt8)), 0)).bind fun y_8 =>
  match y_8 with
  | .inl y_8a =>
    some (y_8a.2, y_8a.1)
  | .inr y_8b =>
    some (y_8b.2, y_8b.1)

/-- impl.unfold -/
noncomputable def impl_unfold (n : Int) : Option Int :=
  ck (nz 2) <|
  if ((n.tmod 2) == 1) then
    some (IntKind.i64.wrap ((IntKind.i64.wrap (0 - (IntKind.i64.wrap (n + 1)))).tdiv 2))
  else
    some (IntKind.i64.wrap (n.tdiv 2))

/-- bytes.Equal -/
noncomputable def bytes_Equal (a : List UInt8) (b : List UInt8) : Option Bool :=
  some (a == b)

noncomputable def impl_UnpackEstimates_l1 (b : List UInt8) (stars : List (List UInt8)) (observers : List (List UInt8)) (t33 : Int) : (Unpacker × (List Estimate) × Int × Int × Int) → Option ((Unpacker × (List Estimate) × Int × Int × Int) ⊕ ((Unpacker × (List Estimate)) ⊕ ((List Estimate) × Int)))
  | (u, list, time, mag, t34) =>
    if (decide (t34 < t33)) then
      (impl_unpacker_number u 10000000).bind fun y_8 =>
      (impl_count_string stars).bind fun y_9 =>
      (impl_unpacker_number y_8.2 (IntKind.i64.wrap (y_9 - 1))).bind fun y_10 =>
      (impl_count_string observers).bind fun y_11 =>
      (impl_unpacker_number y_10.2 (IntKind.i64.wrap ((IntKind.i64.wrap (2 * y_11)) - 1))).bind fun y_12 =>
      (impl_unpacker_number y_12.2 44000).bind fun y_13 =>
      (impl_unfold y_13.1).bind fun y_14 =>
      if y_13.2.bad_ then
        some (.inr (.inr (([] : List Estimate), 8)))
      else
        ck (ixOk y_10.1 stars.length) <|
        ck (nz 2) <|
        ck (ixOk (IntKind.i64.wrap (y_12.1.tdiv 2)) observers.length) <|
        ck (appOk (list.length + ([(Estimate.mk (IntKind.i64.wrap (time + y_8.1)) (stars.getD y_10.1.toNat default) (observers.getD (IntKind.i64.wrap (y_12.1.tdiv 2)).toNat default) (IntKind.i64.wrap (mag + y_14)) ((y_12.1.tmod 2) == 1))] : List Estimate).length) 56) <|
        some (.inl (y_13.2, (list ++ ([(Estimate.mk (IntKind.i64.wrap (time + y_8.1)) (stars.getD y_10.1.toNat default) (observers.getD (IntKind.i64.wrap (y_12.1.tdiv 2)).toNat default) (IntKind.i64.wrap (mag + y_14)) ((y_12.1.tmod 2) == 1))] : List Estimate)), (IntKind.i64.wrap (time + y_8.1)), (IntKind.i64.wrap (mag + y_14)), (IntKind.i64.wrap (t34 + 1))))
    else
      some (.inr (.inl (u, list)))

/-- impl.UnpackEstimates -/
noncomputable def impl_UnpackEstimates (b : List UInt8) : Option ((List Estimate) × Int) :=
  (impl_checkPacked__impl_UnpackEstimates_c1 b).bind fun y_1 =>
  if (!(y_1 == 0)) then
    some (([] : List Estimate), y_1)
  else
    ck (cutOk 1 (IntKind.i64.wrap ((b.length : Int) - 2)) b.length) <|
    (impl_unpacker_names (Unpacker.mk (cut b 1 (IntKind.i64.wrap ((b.length : Int) - 2))) false)).bind fun y_4 =>
    (impl_unpacker_names y_4.2).bind fun y_5 =>
    (impl_unpacker_number y_5.2 100).bind fun y_6 =>
    (whileE (impl_UnpackEstimates_l1 b y_4.1 y_5.1 y_6.1) (y_6.2, ([] : List Estimate), 0, 0, 0)).bind fun y_20 =>
    match y_20 with
    | .inl y_20a =>
      (impl_PackEstimates y_20a.2).bind fun y_21 =>
      ck (!(!(y_20a.1.bad_ || (!(y_21.2 == 0)))) || (bytes_Equal y_21.1 b).isSome) <|
      if ((y_20a.1.bad_ || (!(y_21.2 == 0))) || (!((bytes_Equal y_21.1 b).getD default))) then
        some (([] : List Estimate), 8)
      else
        some (y_20a.2, 0)
    | .inr y_20b =>
      some (y_20b.1, y_20b.2)

/-- spec.l25Open -/
noncomputable def spec_l25Open (b : List UInt8) (kind : Int) : Option Int :=
  ck (!(!((decide ((b.length : Int) < 3)) || (decide (8000 < (b.length : Int))))) || ixOk 0 b.length) <|
  if (((decide ((b.length : Int) < 3)) || (decide (8000 < (b.length : Int)))) || (!(((b.getD 0 default).toNat : Int) == kind))) then
    some 8
  else
    ck (ixOk (IntKind.i64.wrap ((b.length : Int) - 2)) b.length) <|
    ck (ixOk (IntKind.i64.wrap ((b.length : Int) - 1)) b.length) <|
    ck (cutOk 0 (IntKind.i64.wrap ((b.length : Int) - 2)) b.length) <|
    (spec_l25Sum (cut b 0 (IntKind.i64.wrap ((b.length : Int) - 2)))).bind fun y_6 =>
    if (!((IntKind.i64.wrap ((IntKind.i64.wrap (256 * ((b.getD (IntKind.i64.wrap ((b.length : Int) - 2)).toNat default).toNat : Int))) + ((b.getD (IntKind.i64.wrap ((b.length : Int) - 1)).toNat default).toNat : Int))) == y_6)) then
      some 9
    else
      some 0

noncomputable def spec_l25Read_l1 (b : List UInt8) : (Int × Int) → Option ((Int × Int) ⊕ (Unit ⊕ (Int × Int × Bool)))
  | (n, i) =>
    if ((decide (i < (b.length : Int))) && (decide (i < 9))) then
      ck (ixOk i b.length) <|
      ck (shOk (IntKind.u64.wrap (IntKind.i64.wrap (7 * i)))) <|
      if (decide (((b.getD i.toNat default).toNat : Int) < 128)) then
        if ((decide (0 < i)) && (((b.getD i.toNat default).toNat : Int) == 0)) then
          some (.inr (.inr (0, 0, false)))
        else
          some (.inr (.inr ((IntKind.i64.wrap (n + (IntKind.i64.wrap ((IntKind.i64.wrap (IntKind.u8.wrap (BitVec.ofInt (IntKind.bits .u8) ((b.getD i.toNat default).toNat : Int) &&& BitVec.ofInt (IntKind.bits .u8) 127).toNat)) * 2 ^ (min (IntKind.u64.wrap (IntKind.i64.wrap (7 * i))).toNat 64))))), (IntKind.i64.wrap (i + 1)), true)))
      else
        some (.inl ((IntKind.i64.wrap (n + (IntKind.i64.wrap ((IntKind.i64.wrap (IntKind.u8.wrap (BitVec.ofInt (IntKind.bits .u8) ((b.getD i.toNat default).toNat : Int) &&& BitVec.ofInt (IntKind.bits .u8) 127).toNat)) * 2 ^ (min (IntKind.u64.wrap (IntKind.i64.wrap (7 * i))).toNat 64))))), (IntKind.i64.wrap (i + 1))))
    else
      some (.inr (.inl ()))

/-- spec.l25Read -/
noncomputable def spec_l25Read (b : List UInt8) : Option (Int × Int × Bool) :=
  (whileE (spec_l25Read_l1 b) (0, 0)).bind fun y_6 =>
  match y_6 with
  | .inl y_6a =>
    some (0, 0, false)
  | .inr y_6b =>
    some (y_6b.1, y_6b.2.1, y_6b.2.2)

/-- (*spec.l25R).number -/
noncomputable def spec_l25R_number (r : L25R) (most : Int) : Option (Int × L25R) :=
  ck (cutOk r.at_ (r.b_.length : Int) r.b_.length) <|
  (spec_l25Read (cut r.b_ r.at_ (r.b_.length : Int))).bind fun y_2 =>
  if ((!y_2.2.2) || (decide (most < y_2.1))) then
    some (0, (L25R.mk r.b_ r.at_ false))
  else
    some (y_2.1, (L25R.mk r.b_ (IntKind.i64.wrap (r.at_ + y_2.2.1)) r.ok_))

noncomputable def spec_l25R_names_l1  : (L25R × (List (List UInt8)) × Int) → Option ((L25R × (List (List UInt8)) × Int) ⊕ (L25R × (List (List UInt8))))
  | (r, out, n) =>
    if ((decide (0 < n)) && r.ok_) then
      (spec_l25R_number r 12).bind fun y_3 =>
      if (decide ((y_3.2.b_.length : Int) < (IntKind.i64.wrap (y_3.2.at_ + y_3.1)))) then
        some (.inr ((L25R.mk y_3.2.b_ y_3.2.at_ false), out))
      else
        ck (cutOk y_3.2.at_ (IntKind.i64.wrap (y_3.2.at_ + y_3.1)) y_3.2.b_.length) <|
        ck (appOk (out.length + ([(cut y_3.2.b_ y_3.2.at_ (IntKind.i64.wrap (y_3.2.at_ + y_3.1)))] : List (List UInt8)).length) 16) <|
        some (.inl ((L25R.mk y_3.2.b_ (IntKind.i64.wrap (y_3.2.at_ + y_3.1)) y_3.2.ok_), (out ++ ([(cut y_3.2.b_ y_3.2.at_ (IntKind.i64.wrap (y_3.2.at_ + y_3.1)))] : List (List UInt8))), (IntKind.i64.wrap (n - 1))))
    else
      some (.inr (r, out))

/-- (*spec.l25R).names -/
noncomputable def spec_l25R_names (r : L25R) : Option ((List (List UInt8)) × L25R) :=
  (spec_l25R_number r 100).bind fun y_1 =>
  (whileE (spec_l25R_names_l1) (y_1.2, ([] : List (List UInt8)), y_1.1)).bind fun y_7 =>
  some (y_7.2, y_7.1)

/-- spec.l25Unfold -/
noncomputable def spec_l25Unfold (n : Int) : Option Int :=
  ck (nz 2) <|
  if ((n.tmod 2) == 1) then
    some (IntKind.i64.wrap ((IntKind.i64.wrap (0 - (IntKind.i64.wrap (n + 1)))).tdiv 2))
  else
    some (IntKind.i64.wrap (n.tdiv 2))

noncomputable def spec_l25List_l1 (stars : List (List UInt8)) (people : List (List UInt8)) : (L25R × (List Estimate) × Int × Int × Int) → Option ((L25R × (List Estimate) × Int × Int × Int) ⊕ (L25R × (List Estimate)))
  | (r, out, time, mag, n) =>
    if ((decide (0 < n)) && r.ok_) then
      (spec_l25R_number r 10000000).bind fun y_6 =>
      (spec_l25R_number y_6.2 (IntKind.i64.wrap ((stars.length : Int) - 1))).bind fun y_7 =>
      (spec_l25R_number y_7.2 (IntKind.i64.wrap ((IntKind.i64.wrap (2 * (people.length : Int))) - 1))).bind fun y_8 =>
      (spec_l25R_number y_8.2 100000).bind fun y_9 =>
      (spec_l25Unfold y_9.1).bind fun y_10 =>
      if (!y_9.2.ok_) then
        some (.inr (y_9.2, out))
      else
        ck (ixOk y_7.1 stars.length) <|
        ck (nz 2) <|
        ck (ixOk (IntKind.i64.wrap (y_8.1.tdiv 2)) people.length) <|
        ck (appOk (out.length + ([(Estimate.mk (IntKind.i64.wrap (time + y_6.1)) (stars.getD y_7.1.toNat default) (people.getD (IntKind.i64.wrap (y_8.1.tdiv 2)).toNat default) (IntKind.i64.wrap (mag + y_10)) ((y_8.1.tmod 2) == 1))] : List Estimate).length) 56) <|
        some (.inl (y_9.2, (out ++ ([(Estimate.mk (IntKind.i64.wrap (time + y_6.1)) (stars.getD y_7.1.toNat default) (people.getD (IntKind.i64.wrap (y_8.1.tdiv 2)).toNat default) (IntKind.i64.wrap (mag + y_10)) ((y_8.1.tmod 2) == 1))] : List Estimate)), (IntKind.i64.wrap (time + y_6.1)), (IntKind.i64.wrap (mag + y_10)), (IntKind.i64.wrap (n - 1))))
    else
      some (.inr (r, out))

noncomputable def spec_l25List_l2 (stars : List (List UInt8)) (people : List (List UInt8)) : (L25R × (List Estimate) × Int × Int × Int) → Option ((L25R × (List Estimate) × Int × Int × Int) ⊕ (L25R × (List Estimate)))
  | (r, out, time, mag, n) =>
    if ((decide (0 < n)) && r.ok_) then
      (spec_l25R_number r 10000000).bind fun y_18 =>
      (spec_l25R_number y_18.2 (IntKind.i64.wrap ((stars.length : Int) - 1))).bind fun y_19 =>
      (spec_l25R_number y_19.2 (IntKind.i64.wrap ((IntKind.i64.wrap (2 * (people.length : Int))) - 1))).bind fun y_20 =>
      (spec_l25R_number y_20.2 100000).bind fun y_21 =>
      (spec_l25Unfold y_21.1).bind fun y_22 =>
      if (!y_21.2.ok_) then
        some (.inr (y_21.2, out))
      else
        ck (ixOk y_19.1 stars.length) <|
        ck (nz 2) <|
        ck (ixOk (IntKind.i64.wrap (y_20.1.tdiv 2)) people.length) <|
        ck (appOk (out.length + ([(Estimate.mk (IntKind.i64.wrap (time + y_18.1)) (stars.getD y_19.1.toNat default) (people.getD (IntKind.i64.wrap (y_20.1.tdiv 2)).toNat default) (IntKind.i64.wrap (mag + y_22)) ((y_20.1.tmod 2) == 1))] : List Estimate).length) 56) <|
        some (.inl (y_21.2, (out ++ ([(Estimate.mk (IntKind.i64.wrap (time + y_18.1)) (stars.getD y_19.1.toNat default) (people.getD (IntKind.i64.wrap (y_20.1.tdiv 2)).toNat default) (IntKind.i64.wrap (mag + y_22)) ((y_20.1.tmod 2) == 1))] : List Estimate)), (IntKind.i64.wrap (time + y_18.1)), (IntKind.i64.wrap (mag + y_22)), (IntKind.i64.wrap (n - 1))))
    else
      some (.inr (r, out))

/-- spec.l25List -/
noncomputable def spec_l25List (r : L25R) : Option ((List Estimate) × Bool × L25R) :=
  (spec_l25R_names r).bind fun y_1 =>
  (spec_l25R_names y_1.2).bind fun y_2 =>
  if y_2.2.ok_ then
    (spec_l25R_number y_2.2 100).bind fun y_4 =>
    (whileE (spec_l25List_l1 y_1.1 y_2.1) (y_4.2, ([] : List Estimate), 0, 0, y_4.1)).bind fun y_16 =>
    some (y_16.2, y_16.1.ok_, y_16.1)
  else
    (whileE (spec_l25List_l2 y_1.1 y_2.1) (y_2.2, ([] : List Estimate), 0, 0, 0)).bind fun y_28 =>
    some (y_28.2, y_28.1.ok_, y_28.1)

/-- spec.UnpackEstimates -/
noncomputable def spec_UnpackEstimates (b : List UInt8) : Option ((List Estimate) × Int) :=
  (spec_l25Open b 69).bind fun y_1 =>
  if (!(y_1 == 0)) then
    some (([] : List Estimate), y_1)
  else
    ck (cutOk 0 (IntKind.i64.wrap ((b.length : Int) - 2)) b.length) <|
    (spec_l25List (L25R.mk (cut b 0 (IntKind.i64.wrap ((b.length : Int) - 2))) 1 true)).bind fun y_4 =>
    ck (!(!(!y_4.2.1)) || (spec_l06Ok y_4.1).isSome) <|
    ck (!(!((!y_4.2.1) || (!((spec_l06Ok y_4.1).getD default)))) || (spec_l25Estimates y_4.1).isSome) <|
    if (((!y_4.2.1) || (!((spec_l06Ok y_4.1).getD default))) || (!(((spec_l25Estimates y_4.1).getD default) == b))) then
      some (([] : List Estimate), 8)
    else
      some (y_4.1, 0)

/-- spec.DrawUnpackCurve -/
noncomputable def spec_DrawUnpackCurve (code : List UInt8) : Option (List UInt8) :=
  (spec_l00From code).bind fun y_1 =>
  (spec_l08Draw y_1 8).bind fun y_2 =>
  (spec_l25Curve y_2.1).bind fun y_3 =>
  (spec_l00Src_one y_2.2 2).bind fun y_4 =>
  if y_4.1 then
    (spec_l25Spoil y_4.2 y_3).bind fun y_6 =>
    some y_6.1
  else
    some y_3

/-- impl.UnpackCurve$1 -/
noncomputable def impl_UnpackCurve_c1 (kind : UInt8) : Option Bool :=
  some ((kind.toNat : Int) == 67)

/-- impl.checkPacked -/
noncomputable def impl_checkPacked__impl_UnpackCurve_c1 (b : List UInt8) : Option Int :=
  ck (!(!((decide ((b.length : Int) < 3)) || (decide (8000 < (b.length : Int))))) || ixOk 0 b.length) <|
  ck (!(!((decide ((b.length : Int) < 3)) || (decide (8000 < (b.length : Int))))) || (impl_UnpackCurve_c1 (b.getD 0 default)).isSome) <|
  if (((decide ((b.length : Int) < 3)) || (decide (8000 < (b.length : Int)))) || (!((impl_UnpackCurve_c1 (b.getD 0 default)).getD default))) then
    some 8
  else
    ck (cutOk 0 (IntKind.i64.wrap ((b.length : Int) - 2)) b.length) <|
    (impl_SumOfBytes (cut b 0 (IntKind.i64.wrap ((b.length : Int) - 2)))).bind fun y_5 =>
    ck (ixOk (IntKind.i64.wrap ((b.length : Int) - 2)) b.length) <|
    ck (ixOk (IntKind.i64.wrap ((IntKind.i64.wrap ((b.length : Int) - 2)) + 1)) b.length) <|
    if (!(y_5 == (IntKind.i64.wrap ((IntKind.i64.wrap (((b.getD (IntKind.i64.wrap ((b.length : Int) - 2)).toNat default).toNat : Int) * 256)) + ((b.getD (IntKind.i64.wrap ((IntKind.i64.wrap ((b.length : Int) - 2)) + 1)).toNat default).toNat : Int))))) then
      some 9
    else
      some 0

noncomputable def impl_UnpackCurve_l1 (b : List UInt8) (t25 : Int) : (Unpacker × (List Point) × Int × Int × Int) → Option ((Unpacker × (List Point) × Int × Int × Int) ⊕ (Unpacker × (List Point)))
  | (u, curve, time, mag, t26) =>
    if (decide (t26 < t25)) then
      (impl_unpacker_number u 10000000).bind fun y_6 =>
      (impl_unpacker_number y_6.2 44000).bind fun y_7 =>
      (impl_unfold y_7.1).bind fun y_8 =>
      ck (appOk (curve.length + ([(Point.mk (IntKind.i64.wrap (time + y_6.1)) (IntKind.i64.wrap (mag + y_8)))] : List Point).length) 16) <|
      some (.inl (y_7.2, (curve ++ ([(Point.mk (IntKind.i64.wrap (time + y_6.1)) (IntKind.i64.wrap (mag + y_8)))] : List Point)), (IntKind.i64.wrap (time + y_6.1)), (IntKind.i64.wrap (mag + y_8)), (IntKind.i64.wrap (t26 + 1))))
    else
      some (.inr (u, curve))

/-- impl.UnpackCurve -/
noncomputable def impl_UnpackCurve (b : List UInt8) : Option ((List Point) × Int) :=
  (impl_checkPacked__impl_UnpackCurve_c1 b).bind fun y_1 =>
  if (!(y_1 == 0)) then
    some (([] : List Point), y_1)
  else
    ck (cutOk 1 (IntKind.i64.wrap ((b.length : Int) - 2)) b.length) <|
    (impl_unpacker_number (Unpacker.mk (cut b 1 (IntKind.i64.wrap ((b.length : Int) - 2))) false) 100).bind fun y_4 =>
    (whileE (impl_UnpackCurve_l1 b y_4.1) (y_4.2, ([] : List Point), 0, 0, 0)).bind fun y_10 =>
    (impl_PackCurve y_10.2).bind fun y_11 =>
    ck (!(!(y_10.1.bad_ || (!(y_11.2 == 0)))) || (bytes_Equal y_11.1 b).isSome) <|
    if ((y_10.1.bad_ || (!(y_11.2 == 0))) || (!((bytes_Equal y_11.1 b).getD default))) then
      some (([] : List Point), 8)
    else
      some (y_10.2, 0)

noncomputable def spec_UnpackCurve_l1 (b : List UInt8) : (L25R × (List Point) × Int × Int × Int) → Option ((L25R × (List Point) × Int × Int × Int) ⊕ (L25R × (List Point)))
  | (r, out, time, mag, n) =>
    if ((decide (0 < n)) && r.ok_) then
      (spec_l25R_number r 10000000).bind fun y_6 =>
      (spec_l25R_number y_6.2 100000).bind fun y_7 =>
      (spec_l25Unfold y_7.1).bind fun y_8 =>
      ck (appOk (out.length + ([(Point.mk (IntKind.i64.wrap (time + y_6.1)) (IntKind.i64.wrap (mag + y_8)))] : List Point).length) 16) <|
      some (.inl (y_7.2, (out ++ ([(Point.mk (IntKind.i64.wrap (time + y_6.1)) (IntKind.i64.wrap (mag + y_8)))] : List Point)), (IntKind.i64.wrap (time + y_6.1)), (IntKind.i64.wrap (mag + y_8)), (IntKind.i64.wrap (n - 1))))
    else
      some (.inr (r, out))

/-- spec.UnpackCurve -/
noncomputable def spec_UnpackCurve (b : List UInt8) : Option ((List Point) × Int) :=
  (spec_l25Open b 67).bind fun y_1 =>
  if (!(y_1 == 0)) then
    some (([] : List Point), y_1)
  else
    ck (cutOk 0 (IntKind.i64.wrap ((b.length : Int) - 2)) b.length) <|
    (spec_l25R_number (L25R.mk (cut b 0 (IntKind.i64.wrap ((b.length : Int) - 2))) 1 true) 100).bind fun y_4 =>
    (whileE (spec_UnpackCurve_l1 b) (y_4.2, ([] : List Point), 0, 0, y_4.1)).bind fun y_10 =>
    ck (!(!(!y_10.1.ok_)) || (spec_l08Ok y_10.2).isSome) <|
    ck (!(!((!y_10.1.ok_) || (!((spec_l08Ok y_10.2).getD default)))) || (spec_l25Curve y_10.2).isSome) <|
    if (((!y_10.1.ok_) || (!((spec_l08Ok y_10.2).getD default))) || (!(((spec_l25Curve y_10.2).getD default) == b))) then
      some (([] : List Point), 8)
    else
      some (y_10.2, 0)

noncomputable def spec_l25Bytes_l1  : (L00Src × (List UInt8) × Int) → Option ((L00Src × (List UInt8) × Int) ⊕ (L00Src × (List UInt8)))
  | (s_, out, k) =>
    if (decide (0 < k)) then
      (spec_l00Src_pick s_ 256).bind fun y_3 =>
      ck (appOk (out.length + ([(toU8 (IntKind.u8.wrap y_3.1))] : List UInt8).length) 1) <|
      some (.inl (y_3.2, (out ++ ([(toU8 (IntKind.u8.wrap y_3.1))] : List UInt8)), (IntKind.i64.wrap (k - 1))))
    else
      some (.inr (s_, out))

/-- spec.l25Bytes -/
noncomputable def spec_l25Bytes (s_ : L00Src) : Option ((List UInt8) × L00Src) :=
  (spec_l00Src_pick s_ 12).bind fun y_1 =>
  (whileE (spec_l25Bytes_l1) (y_1.2, ([] : List UInt8), y_1.1)).bind fun y_5 =>
  some (y_5.2, y_5.1)

/-- spec.DrawKindOfPacked -/
noncomputable def spec_DrawKindOfPacked (code : List UInt8) : Option (List UInt8) :=
  (spec_l00From code).bind fun y_1 =>
  (spec_l00Src_one y_1 4).bind fun y_2 =>
  if y_2.1 then
    (spec_l25Bytes y_2.2).bind fun y_4 =>
    some y_4.1
  else
    (spec_l00Src_one y_2.2 24).bind fun y_5 =>
    if y_5.1 then
      (spec_l00Src_pick y_5.2 2).bind fun y_7 =>
      ck (mkOk (IntKind.i64.wrap (7998 + y_7.1)) 1) <|
      ck (ixOk 0 ((List.replicate (IntKind.i64.wrap (7998 + y_7.1)).toNat (0 : UInt8)).length)) <|
      (spec_l25Close ((List.replicate (IntKind.i64.wrap (7998 + y_7.1)).toNat (0 : UInt8)).set 0 (67 : UInt8))).bind fun y_10 =>
      some y_10
    else
      (spec_l00Src_one y_5.2 2).bind fun y_11 =>
      if y_11.1 then
        (spec_DrawUnpackCurve code).bind fun y_13 =>
        some y_13
      else
        (spec_DrawUnpackEstimates code).bind fun y_14 =>
        some y_14

/-- impl.KindOfPacked$1 -/
noncomputable def impl_KindOfPacked_c1 (kind : UInt8) : Option Bool :=
  some (((kind.toNat : Int) == 69) || ((kind.toNat : Int) == 67))

/-- impl.checkPacked -/
noncomputable def impl_checkPacked__impl_KindOfPacked_c1 (b : List UInt8) : Option Int :=
  ck (!(!((decide ((b.length : Int) < 3)) || (decide (8000 < (b.length : Int))))) || ixOk 0 b.length) <|
  ck (!(!((decide ((b.length : Int) < 3)) || (decide (8000 < (b.length : Int))))) || (impl_KindOfPacked_c1 (b.getD 0 default)).isSome) <|
  if (((decide ((b.length : Int) < 3)) || (decide (8000 < (b.length : Int)))) || (!((impl_KindOfPacked_c1 (b.getD 0 default)).getD default))) then
    some 8
  else
    ck (cutOk 0 (IntKind.i64.wrap ((b.length : Int) - 2)) b.length) <|
    (impl_SumOfBytes (cut b 0 (IntKind.i64.wrap ((b.length : Int) - 2)))).bind fun y_5 =>
    ck (ixOk (IntKind.i64.wrap ((b.length : Int) - 2)) b.length) <|
    ck (ixOk (IntKind.i64.wrap ((IntKind.i64.wrap ((b.length : Int) - 2)) + 1)) b.length) <|
    if (!(y_5 == (IntKind.i64.wrap ((IntKind.i64.wrap (((b.getD (IntKind.i64.wrap ((b.length : Int) - 2)).toNat default).toNat : Int) * 256)) + ((b.getD (IntKind.i64.wrap ((IntKind.i64.wrap ((b.length : Int) - 2)) + 1)).toNat default).toNat : Int))))) then
      some 9
    else
      some 0

/-- impl.KindOfPacked -/
noncomputable def impl_KindOfPacked (b : List UInt8) : Option (Int × Int) :=
  (impl_checkPacked__impl_KindOfPacked_c1 b).bind fun y_1 =>
  if (!(y_1 == 0)) then
    some (0, y_1)
  else
    ck (ixOk 0 b.length) <|
    some (((b.getD 0 default).toNat : Int), 0)

/-- spec.KindOfPacked -/
noncomputable def spec_KindOfPacked (b : List UInt8) : Option (Int × Int) :=
  ck (!(!((b.length : Int) == 0)) || ixOk 0 b.length) <|
  ck (!((!((b.length : Int) == 0)) && (!(((b.getD 0 default).toNat : Int) == 69))) || ixOk 0 b.length) <|
  if (((b.length : Int) == 0) || ((!(((b.getD 0 default).toNat : Int) == 69)) && (!(((b.getD 0 default).toNat : Int) == 67)))) then
    some (0, 8)
  else
    ck (ixOk 0 b.length) <|
    (spec_l25Open b ((b.getD 0 default).toNat : Int)).bind fun y_5 =>
    if (!(y_5 == 0)) then
      some (0, y_5)
    else
      some (((b.getD 0 default).toNat : Int), 0)

noncomputable def spec_SameEstimates_l1 (a : List Estimate) (b : List Estimate) : Int → Option (Int ⊕ (Unit ⊕ Bool))
  | i =>
    if (decide (i < (a.length : Int))) then
      ck (ixOk i a.length) <|
      ck (ixOk i b.length) <|
      if (!((((a.getD i.toNat default).Time) == ((b.getD i.toNat default).Time)) && ((((a.getD i.toNat default).Star) == ((b.getD i.toNat default).Star)) && ((((a.getD i.toNat default).Observer) == ((b.getD i.toNat default).Observer)) && ((((a.getD i.toNat default).Mag) == ((b.getD i.toNat default).Mag)) && (((a.getD i.toNat default).Fainter) == ((b.getD i.toNat default).Fainter))))))) then
        some (.inr (.inr false))
      else
        some (.inl (IntKind.i64.wrap (i + 1)))
    else
      some (.inr (.inl ()))

/-- spec.SameEstimates -/
noncomputable def spec_SameEstimates (a : List Estimate) (b : List Estimate) : Option Bool :=
  if (!((a.length : Int) == (b.length : Int))) then
    some false
  else
    (whileE (spec_SameEstimates_l1 a b) 0).bind fun y_6 =>
    match y_6 with
    | .inl y_6a =>
      some true
    | .inr y_6b =>
      some y_6b

noncomputable def spec_SameCurve_l1 (a : List Point) (b : List Point) : Int → Option (Int ⊕ (Unit ⊕ Bool))
  | i =>
    if (decide (i < (a.length : Int))) then
      ck (ixOk i a.length) <|
      ck (ixOk i b.length) <|
      if (!((((a.getD i.toNat default).Time) == ((b.getD i.toNat default).Time)) && (((a.getD i.toNat default).Mag) == ((b.getD i.toNat default).Mag)))) then
        some (.inr (.inr false))
      else
        some (.inl (IntKind.i64.wrap (i + 1)))
    else
      some (.inr (.inl ()))

/-- spec.SameCurve -/
noncomputable def spec_SameCurve (a : List Point) (b : List Point) : Option Bool :=
  if (!((a.length : Int) == (b.length : Int))) then
    some false
  else
    (whileE (spec_SameCurve_l1 a b) 0).bind fun y_6 =>
    match y_6 with
    | .inl y_6a =>
      some true
    | .inr y_6b =>
      some y_6b

/-- laws.FnPacked -/
noncomputable def laws_FnPacked (code : List UInt8) : Option Bool :=
  (laws_f6big code).bind fun y_1 =>
  if y_1 then
    some true
  else
    (spec_DrawPackEstimates code).bind fun y_3 =>
    (impl_PackEstimates y_3).bind fun y_4 =>
    (spec_PackEstimates y_3).bind fun y_5 =>
    (spec_DrawPackCurve code).bind fun y_6 =>
    (impl_PackCurve y_6).bind fun y_7 =>
    (spec_PackCurve y_6).bind fun y_8 =>
    (spec_DrawUnpackEstimates code).bind fun y_9 =>
    (impl_UnpackEstimates y_9).bind fun y_10 =>
    (spec_UnpackEstimates y_9).bind fun y_11 =>
    (spec_DrawUnpackCurve code).bind fun y_12 =>
    (impl_UnpackCurve y_12).bind fun y_13 =>
    (spec_UnpackCurve y_12).bind fun y_14 =>
    (spec_DrawKindOfPacked code).bind fun y_15 =>
    (impl_KindOfPacked y_15).bind fun y_16 =>
    (spec_KindOfPacked y_15).bind fun y_17 =>
    ck (!(!(((((!(y_4.2 == y_5.2)) || (!(y_4.1 == y_5.1))) || (!(y_7.2 == y_8.2))) || (!(y_7.1 == y_8.1))) || (!(y_10.2 == y_11.2)))) || (spec_SameEstimates y_10.1 y_11.1).isSome) <|
    ck (!(!(((((((!(y_4.2 == y_5.2)) || (!(y_4.1 == y_5.1))) || (!(y_7.2 == y_8.2))) || (!(y_7.1 == y_8.1))) || (!(y_10.2 == y_11.2))) || (!((spec_SameEstimates y_10.1 y_11.1).getD default))) || (!(y_13.2 == y_14.2)))) || (spec_SameCurve y_13.1 y_14.1).isSome) <|
    if ((((((((((!(y_4.2 == y_5.2)) || (!(y_4.1 == y_5.1))) || (!(y_7.2 == y_8.2))) || (!(y_7.1 == y_8.1))) || (!(y_10.2 == y_11.2))) || (!((spec_SameEstimates y_10.1 y_11.1).getD default))) || (!(y_13.2 == y_14.2))) || (!((spec_SameCurve y_13.1 y_14.1).getD default))) || (!(y_16.2 == y_17.2))) || (!(y_16.1 == y_17.1))) then
      some false
    else
      if (y_4.2 == 0) then
        (impl_UnpackEstimates y_4.1).bind fun y_22 =>
        ck (!(!(!(y_22.2 == 0))) || (spec_SameEstimates y_22.1 y_3).isSome) <|
        if ((!(y_22.2 == 0)) || (!((spec_SameEstimates y_22.1 y_3).getD default))) then
          some false
        else
          if (y_7.2 == 0) then
            (impl_UnpackCurve y_7.1).bind fun y_26 =>
            ck (!(!(!(y_26.2 == 0))) || (spec_SameCurve y_26.1 y_6).isSome) <|
            if ((!(y_26.2 == 0)) || (!((spec_SameCurve y_26.1 y_6).getD default))) then
              some false
            else
              if (y_10.2 == 0) then
                (impl_PackEstimates y_10.1).bind fun y_30 =>
                if ((!(y_30.2 == 0)) || (!(y_30.1 == y_9))) then
                  some false
                else
                  if (!(y_13.2 == 0)) then
                    some true
                  else
                    (impl_PackCurve y_13.1).bind fun y_33 =>
                    some ((y_33.2 == 0) && (y_33.1 == y_12))
              else
                if (!(y_13.2 == 0)) then
                  some true
                else
                  (impl_PackCurve y_13.1).bind fun y_35 =>
                  some ((y_35.2 == 0) && (y_35.1 == y_12))
          else
            if (y_10.2 == 0) then
              (impl_PackEstimates y_10.1).bind fun y_37 =>
              if ((!(y_37.2 == 0)) || (!(y_37.1 == y_9))) then
                some false
              else
                if (!(y_13.2 == 0)) then
                  some true
                else
                  (impl_PackCurve y_13.1).bind fun y_40 =>
                  some ((y_40.2 == 0) && (y_40.1 == y_12))
            else
              if (!(y_13.2 == 0)) then
                some true
              else
                (impl_PackCurve y_13.1).bind fun y_42 =>
                some ((y_42.2 == 0) && (y_42.1 == y_12))
      else
        if (y_7.2 == 0) then
          (impl_UnpackCurve y_7.1).bind fun y_44 =>
          ck (!(!(!(y_44.2 == 0))) || (spec_SameCurve y_44.1 y_6).isSome) <|
          if ((!(y_44.2 == 0)) || (!((spec_SameCurve y_44.1 y_6).getD default))) then
            some false
          else
            if (y_10.2 == 0) then
              (impl_PackEstimates y_10.1).bind fun y_48 =>
              if ((!(y_48.2 == 0)) || (!(y_48.1 == y_9))) then
                some false
              else
                if (!(y_13.2 == 0)) then
                  some true
                else
                  (impl_PackCurve y_13.1).bind fun y_51 =>
                  some ((y_51.2 == 0) && (y_51.1 == y_12))
            else
              if (!(y_13.2 == 0)) then
                some true
              else
                (impl_PackCurve y_13.1).bind fun y_53 =>
                some ((y_53.2 == 0) && (y_53.1 == y_12))
        else
          if (y_10.2 == 0) then
            (impl_PackEstimates y_10.1).bind fun y_55 =>
            if ((!(y_55.2 == 0)) || (!(y_55.1 == y_9))) then
              some false
            else
              if (!(y_13.2 == 0)) then
                some true
              else
                (impl_PackCurve y_13.1).bind fun y_58 =>
                some ((y_58.2 == 0) && (y_58.1 == y_12))
          else
            if (!(y_13.2 == 0)) then
              some true
            else
              (impl_PackCurve y_13.1).bind fun y_60 =>
              some ((y_60.2 == 0) && (y_60.1 == y_12))

end Go.Proofs.YtpjpfdoaemoddaaGreat

/- Plain lemmas: numbers within bounds. No condition. -/
namespace Go.Proofs.YtpjpfdoaemoddaaGreat
open Go Go.RowKit
theorem spec_l00In_is (n a b : Int) : spec_l00In n a b = some (decide (a ≤ n) && decide (n ≤ b)) := id rfl
theorem impl_in_is (n a b : Int) : impl_in n a b = some (decide (a ≤ n) && decide (n ≤ b)) := id rfl
end Go.Proofs.YtpjpfdoaemoddaaGreat

