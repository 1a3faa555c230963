/- Typed forms of the functions that OS reaches. No condition. -/
import Derived.Test.YtikaacjlnkfebaaEngSH
namespace Go.Proofs.Ytikaacjlnkfebaa
open Go Go.RowKit
set_option linter.unusedVariables false

structure Estimate where
  Time : Int
  Star : List UInt8
  Observer : List UInt8
  Mag : Int
  Fainter : Bool
  deriving Inhabited, DecidableEq
def Estimate_av (x : Estimate) : AV := .agg ([.int .i64 x.Time, .str x.Star, .str x.Observer, .int .i64 x.Mag, .bool x.Fainter])

structure L00Src where
  code_ : List UInt8
  at_ : Int
  seed_ : Int
  deriving Inhabited, DecidableEq
def L00Src_av (x : L00Src) : AV := .agg ([.sl 1 (List.map byteAV x.code_), .int .i64 x.at_, .int .u64 x.seed_])

attribute [go_sem] Estimate_av L00Src_av

/-- laws.a2Long -/
noncomputable def laws_a2Long (code : List UInt8) (more : List UInt8) : Option Bool :=
  some ((decide (3000 < (code.length : Int))) || (decide (3000 < (more.length : Int))))

/-- spec.l00From -/
noncomputable def spec_l00From (code : List UInt8) : Option L00Src :=
  some (L00Src.mk code 0 0)

/-- (*spec.l00Src).next -/
noncomputable def spec_l00Src_next (s_ : L00Src) : Option (Int × L00Src) :=
  if (decide (s_.at_ < (s_.code_.length : Int))) then
    ck (ixOk s_.at_ s_.code_.length) <|
    if (decide ((IntKind.i64.wrap (s_.at_ + 1)) ≤ (s_.code_.length : Int))) then
      some (((s_.code_.getD s_.at_.toNat default).toNat : Int), (L00Src.mk s_.code_ (IntKind.i64.wrap (s_.at_ + 1)) (IntKind.u64.wrap ((IntKind.u64.wrap ((IntKind.u64.wrap (s_.seed_ * 6364136223846793005)) + (IntKind.u64.wrap ((s_.code_.getD s_.at_.toNat default).toNat : Int)))) + 1442695040888963407))))
    else
      ck (shOk 40) <|
      some ((IntKind.i64.wrap (IntKind.u64.wrap (BitVec.ofInt (IntKind.bits .u64) ((IntKind.u64.wrap ((IntKind.u64.wrap ((IntKind.u64.wrap (s_.seed_ * 6364136223846793005)) + (IntKind.u64.wrap ((s_.code_.getD s_.at_.toNat default).toNat : Int)))) + 1442695040888963407)).fdiv (2 ^ (min 40 64))) &&& BitVec.ofInt (IntKind.bits .u64) 255).toNat)), (L00Src.mk s_.code_ (IntKind.i64.wrap (s_.at_ + 1)) (IntKind.u64.wrap ((IntKind.u64.wrap ((IntKind.u64.wrap (s_.seed_ * 6364136223846793005)) + (IntKind.u64.wrap ((s_.code_.getD s_.at_.toNat default).toNat : Int)))) + 1442695040888963407))))
  else
    if (decide ((IntKind.i64.wrap (s_.at_ + 1)) ≤ (s_.code_.length : Int))) then
      some (0, (L00Src.mk s_.code_ (IntKind.i64.wrap (s_.at_ + 1)) (IntKind.u64.wrap ((IntKind.u64.wrap ((IntKind.u64.wrap (s_.seed_ * 6364136223846793005)) + (IntKind.u64.wrap 0))) + 1442695040888963407))))
    else
      ck (shOk 40) <|
      some ((IntKind.i64.wrap (IntKind.u64.wrap (BitVec.ofInt (IntKind.bits .u64) ((IntKind.u64.wrap ((IntKind.u64.wrap ((IntKind.u64.wrap (s_.seed_ * 6364136223846793005)) + (IntKind.u64.wrap 0))) + 1442695040888963407)).fdiv (2 ^ (min 40 64))) &&& BitVec.ofInt (IntKind.bits .u64) 255).toNat)), (L00Src.mk s_.code_ (IntKind.i64.wrap (s_.at_ + 1)) (IntKind.u64.wrap ((IntKind.u64.wrap ((IntKind.u64.wrap (s_.seed_ * 6364136223846793005)) + (IntKind.u64.wrap 0))) + 1442695040888963407))))

/-- (*spec.l00Src).pick -/
noncomputable def spec_l00Src_pick (s_ : L00Src) (n : Int) : Option (Int × L00Src) :=
  if (decide (n ≤ 1)) then
    some (0, s_)
  else
    (spec_l00Src_next s_).bind fun y_2 =>
    if (decide (200 < n)) then
      (spec_l00Src_next y_2.2).bind fun y_4 =>
      ck (nz n) <|
      some (((IntKind.i64.wrap ((IntKind.i64.wrap (y_2.1 * 256)) + y_4.1)).tmod n), y_4.2)
    else
      ck (nz n) <|
      some ((y_2.1.tmod n), y_2.2)

/-- (*spec.l00Src).one -/
noncomputable def spec_l00Src_one (s_ : L00Src) (n : Int) : Option (Bool × L00Src) :=
  (spec_l00Src_pick s_ n).bind fun y_1 =>
  some ((y_1.1 == 0), y_1.2)

/-- (*spec.l00Src).text -/
noncomputable def spec_l00Src_text (s_ : L00Src) (list : List (List UInt8)) : Option ((List UInt8) × L00Src) :=
  (spec_l00Src_pick s_ (list.length : Int)).bind fun y_1 =>
  ck (ixOk y_1.1 list.length) <|
  some ((list.getD y_1.1.toNat default), y_1.2)

/-- spec.l06New -/
noncomputable def spec_l06New (s_ : L00Src) : Option (Estimate × L00Src) :=
  (spec_l00Src_pick s_ 30).bind fun y_1 =>
  (spec_l00Src_one y_1.2 2).bind fun y_2 =>
  if y_2.1 then
    (spec_l00Src_pick y_2.2 3000).bind fun y_4 =>
    (spec_l00Src_text y_4.2 ([([109, 105, 114, 97] : List UInt8), ([114, 114, 45, 108, 121, 114] : List UInt8), ([115, 115, 45, 99, 121, 103] : List UInt8)] : List (List UInt8))).bind fun y_5 =>
    (spec_l00Src_text y_5.2 ([([97, 98] : List UInt8), ([99, 100] : List UInt8), ([101] : List UInt8)] : List (List UInt8))).bind fun y_6 =>
    (spec_l00Src_pick y_6.2 60).bind fun y_7 =>
    (spec_l00Src_one y_7.2 5).bind fun y_8 =>
    some ((Estimate.mk (IntKind.i64.wrap ((IntKind.i64.wrap (1000 * y_1.1)) + y_4.1)) y_5.1 y_6.1 (IntKind.i64.wrap (8000 + (IntKind.i64.wrap (50 * y_7.1)))) y_8.1), y_8.2)
  else
    (spec_l00Src_text y_2.2 ([([109, 105, 114, 97] : List UInt8), ([114, 114, 45, 108, 121, 114] : List UInt8), ([115, 115, 45, 99, 121, 103] : List UInt8)] : List (List UInt8))).bind fun y_9 =>
    (spec_l00Src_text y_9.2 ([([97, 98] : List UInt8), ([99, 100] : List UInt8), ([101] : List UInt8)] : List (List UInt8))).bind fun y_10 =>
    (spec_l00Src_pick y_10.2 60).bind fun y_11 =>
    (spec_l00Src_one y_11.2 5).bind fun y_12 =>
    some ((Estimate.mk (IntKind.i64.wrap (1000 * y_1.1)) y_9.1 y_10.1 (IntKind.i64.wrap (8000 + (IntKind.i64.wrap (50 * y_11.1)))) y_12.1), y_12.2)

/-- spec.l06Before -/
noncomputable def spec_l06Before (a : Estimate) (b : Estimate) : Option Bool :=
  if (!(a.Time == b.Time)) then
    some (decide (a.Time < b.Time))
  else
    if (!(a.Star == b.Star)) then
      some (Op.bytesLess a.Star b.Star)
    else
      some (Op.bytesLess a.Observer b.Observer)

noncomputable def spec_l06Find_l1 (list : List Estimate) (e_ : Estimate) : Int → Option (Int ⊕ (Unit ⊕ Int))
  | i =>
    if (decide (i < (list.length : Int))) then
      ck (ixOk i list.length) <|
      (spec_l06Before (list.getD i.toNat default) e_).bind fun y_3 =>
      ck (!(!y_3) || (spec_l06Before e_ (list.getD i.toNat default)).isSome) <|
      if ((!y_3) && (!((spec_l06Before e_ (list.getD i.toNat default)).getD default))) then
        some (.inr (.inr i))
      else
        some (.inl (IntKind.i64.wrap (i + 1)))
    else
      some (.inr (.inl ()))

/-- spec.l06Find -/
noncomputable def spec_l06Find (list : List Estimate) (e_ : Estimate) : Option Int :=
  (whileE (spec_l06Find_l1 list e_) 0).bind fun y_6 =>
  match y_6 with
  | .inl y_6a =>
    some (-1)
  | .inr y_6b =>
    some y_6b

noncomputable def spec_l06Put_l1 (list : List Estimate) (e_ : Estimate) : Int → Option (Int ⊕ Int)
  | k =>
    ck (!(decide (0 < k)) || ixOk (IntKind.i64.wrap (k - 1)) list.length) <|
    ck (!(decide (0 < k)) || (spec_l06Before e_ (list.getD (IntKind.i64.wrap (k - 1)).toNat default)).isSome) <|
    if ((decide (0 < k)) && ((spec_l06Before e_ (list.getD (IntKind.i64.wrap (k - 1)).toNat default)).getD default)) then
      some (.inl (IntKind.i64.wrap (k - 1)))
    else
      some (.inr k)

/-- spec.l06Put -/
noncomputable def spec_l06Put (list : List Estimate) (e_ : Estimate) : Option (List Estimate) :=
  (whileE (spec_l06Put_l1 list e_) (list.length : Int)).bind fun y_4 =>
  ck (cutOk 0 y_4 list.length) <|
  ck (appOk (([] : List Estimate).length + (cut list 0 y_4).length) 56) <|
  ck (appOk ((([] : List Estimate) ++ (cut list 0 y_4)).length + ([e_] : List Estimate).length) 56) <|
  ck (cutOk y_4 (list.length : Int) list.length) <|
  ck (appOk (((([] : List Estimate) ++ (cut list 0 y_4)) ++ ([e_] : List Estimate)).length + (cut list y_4 (list.length : Int)).length) 56) <|
  some (((([] : List Estimate) ++ (cut list 0 y_4)) ++ ([e_] : List Estimate)) ++ (cut list y_4 (list.length : Int)))

noncomputable def spec_l06Draw_l1  : (L00Src × (List Estimate) × Int) → Option ((L00Src × (List Estimate) × Int) ⊕ (L00Src × (List Estimate)))
  | (s_, out, k) =>
    if (decide (0 < k)) then
      (spec_l06New s_).bind fun y_3 =>
      (spec_l06Find out y_3.1).bind fun y_4 =>
      if (decide (y_4 < 0)) then
        (spec_l06Put out y_3.1).bind fun y_6 =>
        some (.inl (y_3.2, y_6, (IntKind.i64.wrap (k - 1))))
      else
        some (.inl (y_3.2, out, (IntKind.i64.wrap (k - 1))))
    else
      some (.inr (s_, out))

/-- spec.l06Draw -/
noncomputable def spec_l06Draw (s_ : L00Src) (most : Int) : Option ((List Estimate) × L00Src) :=
  (spec_l00Src_pick s_ (IntKind.i64.wrap (most + 1))).bind fun y_1 =>
  (whileE (spec_l06Draw_l1) (y_1.2, ([] : List Estimate), y_1.1)).bind fun y_7 =>
  some (y_7.2, y_7.1)

/-- spec.A2Estimates -/
noncomputable def spec_A2Estimates (code : List UInt8) : Option (List Estimate) :=
  (spec_l00From code).bind fun y_1 =>
  (spec_l06Draw y_1 12).bind fun y_2 =>
  some y_2.1

/-- impl.in -/
noncomputable def impl_in (n : Int) (low : Int) (high : Int) : Option Bool :=
  some ((decide (low ≤ n)) && (decide (n ≤ high)))

/-- impl.ValidTime -/
noncomputable def impl_ValidTime (t : Int) : Option Bool :=
  (impl_in t 0 10000000).bind fun y_1 =>
  some y_1

noncomputable def impl_IsName_l1 (s_ : List UInt8) (t15 : Int) : Int → Option (Int ⊕ (Unit ⊕ Bool))
  | t16 =>
    if (decide (t16 < t15)) then
      ck (ixOk t16 s_.length) <|
      if ((!((decide (97 ≤ ((s_.getD t16.toNat 0).toNat : Int))) && (decide (((s_.getD t16.toNat 0).toNat : Int) ≤ 122)))) && ((t16 == 0) || (!(((decide (48 ≤ ((s_.getD t16.toNat 0).toNat : Int))) && (decide (((s_.getD t16.toNat 0).toNat : Int) ≤ 57))) || (((s_.getD t16.toNat 0).toNat : Int) == 45))))) then
        some (.inr (.inr false))
      else
        some (.inl (IntKind.i64.wrap (t16 + 1)))
    else
      some (.inr (.inl ()))

/-- impl.IsName -/
noncomputable def impl_IsName (s_ : List UInt8) : Option Bool :=
  if ((decide ((s_.length : Int) < 1)) || (decide (12 < (s_.length : Int)))) then
    some false
  else
    (whileE (impl_IsName_l1 s_ (s_.length : Int)) 0).bind fun y_5 =>
    match y_5 with
    | .inl y_5a =>
      some true
    | .inr y_5b =>
      some y_5b

/-- impl.ValidMag -/
noncomputable def impl_ValidMag (m : Int) : Option Bool :=
  (impl_in m (-2000) 20000).bind fun y_1 =>
  some y_1

/-- impl.isEstimate -/
noncomputable def impl_isEstimate (e_ : Estimate) : Option Bool :=
  (impl_ValidTime e_.Time).bind fun y_1 =>
  ck (!y_1 || (impl_IsName e_.Star).isSome) <|
  ck (!(y_1 && ((impl_IsName e_.Star).getD default)) || (impl_IsName e_.Observer).isSome) <|
  ck (!((y_1 && ((impl_IsName e_.Star).getD default)) && ((impl_IsName e_.Observer).getD default)) || (impl_ValidMag e_.Mag).isSome) <|
  some (((y_1 && ((impl_IsName e_.Star).getD default)) && ((impl_IsName e_.Observer).getD default)) && ((impl_ValidMag e_.Mag).getD default))

/-- cmp.isNaN[int64] -/
noncomputable def cmp_isNaN_int64 (x : Int) : Option Bool :=
  some (!(x == x))

/-- cmp.Compare[int64] -/
noncomputable def cmp_Compare_int64 (x : Int) (y : Int) : Option Int :=
  (cmp_isNaN_int64 x).bind fun y_1 =>
  (cmp_isNaN_int64 y).bind fun y_2 =>
  if y_1 then
    if y_2 then
      some 0
    else
      some (-1)
  else
    if y_2 then
      some 1
    else
      if (decide (x < y)) then
        some (-1)
      else
        if (decide (y < x)) then
          some 1
        else
          some 0


/-- internal/bytealg.CompareString -/
noncomputable def internal_bytealg_CompareString (a : List UInt8) (b : List UInt8) : Option Int :=
  (hCmp a b).bind fun y_1 =>
  some y_1

/-- strings.Compare -/
noncomputable def strings_Compare (a : List UInt8) (b : List UInt8) : Option Int :=
  (internal_bytealg_CompareString a b).bind fun y_1 =>
  some y_1

noncomputable def cmp_Or_int_l1 (zero : Int) (t6 : List Int) (t7 : Int) : Int → Option (Int ⊕ (Unit ⊕ Int))
  | t8 =>
    if (decide (t8 < t7)) then
      ck (ixOk t8 t6.length) <|
      if (!((t6.getD t8.toNat default) == zero)) then
        some (.inr (.inr (t6.getD t8.toNat default)))
      else
        some (.inl (IntKind.i64.wrap (t8 + 1)))
    else
      some (.inr (.inl ()))

/-- cmp.Or[int] -/
noncomputable def cmp_Or_int (vals : List Int) : Option Int :=
  (whileE (cmp_Or_int_l1 0 vals (vals.length : Int)) 0).bind fun y_4 =>
  match y_4 with
  | .inl y_4a =>
    some 0
  | .inr y_4b =>
    some y_4b

/-- impl.compareEstimates -/
noncomputable def impl_compareEstimates (a : Estimate) (b : Estimate) : Option Int :=
  (cmp_Compare_int64 a.Time b.Time).bind fun y_1 =>
  (strings_Compare a.Star b.Star).bind fun y_2 =>
  (strings_Compare a.Observer b.Observer).bind fun y_3 =>
  (cmp_Or_int ([y_1, y_2, y_3] : List Int)).bind fun y_4 =>
  some y_4

noncomputable def impl_ValidEstimates_l1 (list : List Estimate) (t8 : List Estimate) (t9 : Int) : Int → Option (Int ⊕ (Unit ⊕ Bool))
  | t10 =>
    if (decide (t10 < t9)) then
      ck (ixOk t10 t8.length) <|
      (impl_isEstimate (t8.getD t10.toNat default)).bind fun y_4 =>
      ck (!((!(!y_4)) && (decide (0 < t10))) || ixOk (IntKind.i64.wrap (t10 - 1)) list.length) <|
      ck (!((!(!y_4)) && (decide (0 < t10))) || (impl_compareEstimates (list.getD (IntKind.i64.wrap (t10 - 1)).toNat default) (t8.getD t10.toNat default)).isSome) <|
      if ((!y_4) || ((decide (0 < t10)) && (decide (0 ≤ ((impl_compareEstimates (list.getD (IntKind.i64.wrap (t10 - 1)).toNat default) (t8.getD t10.toNat default)).getD default))))) then
        some (.inr (.inr false))
      else
        some (.inl (IntKind.i64.wrap (t10 + 1)))
    else
      some (.inr (.inl ()))

/-- impl.ValidEstimates -/
noncomputable def impl_ValidEstimates (list : List Estimate) : Option Bool :=
  if (decide (100 < (list.length : Int))) then
    some false
  else
    (whileE (impl_ValidEstimates_l1 list list (list.length : Int)) 0).bind fun y_8 =>
    match y_8 with
    | .inl y_8a =>
      some true
    | .inr y_8b =>
      some y_8b

/-- impl.starOf -/
noncomputable def impl_starOf (e_ : Estimate) : Option (List UInt8) :=
  some e_.Star



noncomputable def impl_namesOf__impl_starOf_l1 (t9 : List Estimate) (t10 : Int) : ((List (List UInt8)) × Int) → Option (((List (List UInt8)) × Int) ⊕ (List (List UInt8)))
  | (out, t11) =>
    if (decide (t11 < t10)) then
      ck (ixOk t11 t9.length) <|
      (impl_starOf (t9.getD t11.toNat default)).bind fun y_3 =>
      ck (appOk (out.length + ([y_3] : List (List UInt8)).length) 16) <|
      some (.inl ((out ++ ([y_3] : List (List UInt8))), (IntKind.i64.wrap (t11 + 1))))
    else
      some (.inr out)

/-- impl.namesOf -/
noncomputable def impl_namesOf__impl_starOf (list : List Estimate) : Option (List (List UInt8)) :=
  (whileE (impl_namesOf__impl_starOf_l1 list (list.length : Int)) (([] : List (List UInt8)), 0)).bind fun y_5 =>
  (hSort y_5).bind fun y_6 =>
  (hCompact y_6).bind fun y_7 =>
  some y_7

/-- impl.StarsIn -/
noncomputable def impl_StarsIn (list : List Estimate) : Option ((List (List UInt8)) × Int) :=
  (impl_ValidEstimates list).bind fun y_1 =>
  if (!y_1) then
    some (([] : List (List UInt8)), 1)
  else
    (impl_namesOf__impl_starOf list).bind fun y_3 =>
    some (y_3, 0)

/-- impl.OfStar$1 -/
noncomputable def impl_OfStar_c1 (e_ : Estimate) (t1 : List UInt8) (t2 : Int) (t3 : Int) : Option Bool :=
  ck (!(e_.Star == t1) || (impl_in e_.Time t2 t3).isSome) <|
  some ((e_.Star == t1) && ((impl_in e_.Time t2 t3).getD default))

noncomputable def impl_chosen_impl_Estimate__impl_OfStar_c1_l1 (c : List UInt8) (c2 : Int) (c3 : Int) (t9 : List Estimate) (t10 : Int) : ((List Estimate) × Int) → Option (((List Estimate) × Int) ⊕ (List Estimate))
  | (out, t11) =>
    if (decide (t11 < t10)) then
      ck (ixOk t11 t9.length) <|
      (impl_OfStar_c1 (t9.getD t11.toNat default) c c2 c3).bind fun y_3 =>
      if y_3 then
        ck (appOk (out.length + ([(t9.getD t11.toNat default)] : List Estimate).length) 56) <|
        some (.inl ((out ++ ([(t9.getD t11.toNat default)] : List Estimate)), (IntKind.i64.wrap (t11 + 1))))
      else
        some (.inl (out, (IntKind.i64.wrap (t11 + 1))))
    else
      some (.inr out)

/-- impl.chosen[impl.Estimate] -/
noncomputable def impl_chosen_impl_Estimate__impl_OfStar_c1 (list : List Estimate) (wanted_c0 : List UInt8) (wanted_c1 : Int) (wanted_c2 : Int) : Option (List Estimate) :=
  (whileE (impl_chosen_impl_Estimate__impl_OfStar_c1_l1 wanted_c0 wanted_c1 wanted_c2 list (list.length : Int)) (([] : List Estimate), 0)).bind fun y_6 =>
  some y_6

/-- impl.OfStar -/
noncomputable def impl_OfStar (list : List Estimate) (star : List UInt8) (from_ : Int) (to_ : Int) : Option ((List Estimate) × Int) :=
  (impl_ValidEstimates list).bind fun y_1 =>
  if (!y_1) then
    some (([] : List Estimate), 1)
  else
    (impl_IsName star).bind fun y_3 =>
    ck (!(!(!y_3)) || (impl_ValidTime from_).isSome) <|
    ck (!(!((!y_3) || (!((impl_ValidTime from_).getD default)))) || (impl_ValidTime to_).isSome) <|
    if (((!y_3) || (!((impl_ValidTime from_).getD default))) || (!((impl_ValidTime to_).getD default))) then
      some (([] : List Estimate), 2)
    else
      (impl_chosen_impl_Estimate__impl_OfStar_c1 list star from_ to_).bind fun y_7 =>
      some (y_7, 0)

/-- impl.LastOf, by hand -/
noncomputable def impl_LastOf (list : List Estimate) (star : List UInt8) : Option (Estimate × Int) :=
  (impl_ValidEstimates list).bind fun y =>
  if (!y) then some ((Estimate.mk 0 [] [] 0 false), 1) else
  (impl_IsName star).bind fun z =>
  if (!z) then some ((Estimate.mk 0 [] [] 0 false), 2) else
  match list.reverse.find? (fun e => e.Star == star) with
  | some e => some (e, 0)
  | none => some ((Estimate.mk 0 [] [] 0 false), 3)

noncomputable def laws_FnOfStars_l2 (list : List Estimate) (stars : List (List UInt8)) (many : Int) (k : Int) (some_ : List Estimate) : Int → Option (Int ⊕ (Unit ⊕ Bool))
  | i =>
    if (decide (i < (some_.length : Int))) then
      ck (ixOk i some_.length) <|
      ck (ixOk k stars.length) <|
      if (!(((some_.getD i.toNat default).Star) == (stars.getD k.toNat default))) then
        some (.inr (.inr false))
      else
        some (.inl (IntKind.i64.wrap (i + 1)))
    else
      some (.inr (.inl ()))

noncomputable def laws_FnOfStars_l1 (list : List Estimate) (stars : List (List UInt8)) : (Int × Int) → Option ((Int × Int) ⊕ (Int ⊕ Bool))
  | (many, k) =>
    if (decide (k < (stars.length : Int))) then
      ck (ixOk k stars.length) <|
      (impl_OfStar list (stars.getD k.toNat default) 0 10000000).bind fun y_8 =>
      (impl_LastOf list (stars.getD k.toNat default)).bind fun y_9 =>
      ck (!(!(((!(y_8.2 == 0)) || (!(y_9.2 == 0))) || ((y_8.1.length : Int) == 0))) || ixOk (IntKind.i64.wrap ((y_8.1.length : Int) - 1)) y_8.1.length) <|
      ck (!((!((((!(y_8.2 == 0)) || (!(y_9.2 == 0))) || ((y_8.1.length : Int) == 0)) || (!((((y_8.1.getD (IntKind.i64.wrap ((y_8.1.length : Int) - 1)).toNat default).Time) == y_9.1.Time) && ((((y_8.1.getD (IntKind.i64.wrap ((y_8.1.length : Int) - 1)).toNat default).Star) == y_9.1.Star) && ((((y_8.1.getD (IntKind.i64.wrap ((y_8.1.length : Int) - 1)).toNat default).Observer) == y_9.1.Observer) && ((((y_8.1.getD (IntKind.i64.wrap ((y_8.1.length : Int) - 1)).toNat default).Mag) == y_9.1.Mag) && (((y_8.1.getD (IntKind.i64.wrap ((y_8.1.length : Int) - 1)).toNat default).Fainter) == y_9.1.Fainter)))))))) && (decide (0 < k))) || ixOk (IntKind.i64.wrap (k - 1)) stars.length) <|
      if (((((!(y_8.2 == 0)) || (!(y_9.2 == 0))) || ((y_8.1.length : Int) == 0)) || (!((((y_8.1.getD (IntKind.i64.wrap ((y_8.1.length : Int) - 1)).toNat default).Time) == y_9.1.Time) && ((((y_8.1.getD (IntKind.i64.wrap ((y_8.1.length : Int) - 1)).toNat default).Star) == y_9.1.Star) && ((((y_8.1.getD (IntKind.i64.wrap ((y_8.1.length : Int) - 1)).toNat default).Observer) == y_9.1.Observer) && ((((y_8.1.getD (IntKind.i64.wrap ((y_8.1.length : Int) - 1)).toNat default).Mag) == y_9.1.Mag) && (((y_8.1.getD (IntKind.i64.wrap ((y_8.1.length : Int) - 1)).toNat default).Fainter) == y_9.1.Fainter))))))) || ((decide (0 < k)) && (!(Op.bytesLess (stars.getD (IntKind.i64.wrap (k - 1)).toNat default) (stars.getD k.toNat default))))) then
        some (.inr (.inr false))
      else
        (whileE (laws_FnOfStars_l2 list stars many k y_8.1) 0).bind fun y_17 =>
        match y_17 with
        | .inl y_17a =>
          some (.inl ((IntKind.i64.wrap (many + (y_8.1.length : Int))), (IntKind.i64.wrap (k + 1))))
        | .inr y_17b =>
          some (.inr (.inr y_17b))
    else
      some (.inr (.inl many))

/-- laws.FnOfStars -/
noncomputable def laws_FnOfStars (code : List UInt8) : Option Bool :=
  (laws_a2Long code ([] : List UInt8)).bind fun y_1 =>
  if y_1 then
    some true
  else
    (spec_A2Estimates code).bind fun y_3 =>
    (impl_StarsIn y_3).bind fun y_4 =>
    if (!(y_4.2 == 0)) then
      some false
    else
      (whileE (laws_FnOfStars_l1 y_3 y_4.1) (0, 0)).bind fun y_18 =>
      match y_18 with
      | .inl y_18a =>
        some (y_18a == (y_3.length : Int))
      | .inr y_18b =>
        some y_18b

/-- spec.l00In -/
noncomputable def spec_l00In (n : Int) (low : Int) (high : Int) : Option Bool :=
  some ((decide (low ≤ n)) && (decide (n ≤ high)))

/-- spec.l06Time -/
noncomputable def spec_l06Time (n : Int) : Option Bool :=
  (spec_l00In n 0 10000000).bind fun y_1 =>
  some y_1

/-- spec.l01Small -/
noncomputable def spec_l01Small (c : UInt8) : Option Bool :=
  some ((decide (97 ≤ (c.toNat : Int))) && (decide ((c.toNat : Int) ≤ 122)))

/-- spec.l01Digit -/
noncomputable def spec_l01Digit (c : UInt8) : Option Bool :=
  some ((decide (48 ≤ (c.toNat : Int))) && (decide ((c.toNat : Int) ≤ 57)))

noncomputable def spec_IsName_l1 (s_ : List UInt8) : Int → Option (Int ⊕ (Unit ⊕ Bool))
  | i =>
    if (decide (i < (s_.length : Int))) then
      ck (ixOk i s_.length) <|
      (spec_l01Small (s_.getD i.toNat 0)).bind fun y_6 =>
      ck (!(!y_6) || (spec_l01Digit (s_.getD i.toNat 0)).isSome) <|
      if (((!y_6) && (!((spec_l01Digit (s_.getD i.toNat 0)).getD default))) && (!(((s_.getD i.toNat 0).toNat : Int) == 45))) then
        some (.inr (.inr false))
      else
        some (.inl (IntKind.i64.wrap (i + 1)))
    else
      some (.inr (.inl ()))

/-- spec.IsName -/
noncomputable def spec_IsName (s_ : List UInt8) : Option Bool :=
  ck (!(!((s_ == ([] : List UInt8)) || (decide (12 < (s_.length : Int))))) || ixOk 0 s_.length) <|
  ck (!(!((s_ == ([] : List UInt8)) || (decide (12 < (s_.length : Int))))) || (spec_l01Small (s_.getD 0 0)).isSome) <|
  if (((s_ == ([] : List UInt8)) || (decide (12 < (s_.length : Int)))) || (!((spec_l01Small (s_.getD 0 0)).getD default))) then
    some false
  else
    (whileE (spec_IsName_l1 s_) 0).bind fun y_9 =>
    match y_9 with
    | .inl y_9a =>
      some true
    | .inr y_9b =>
      some y_9b

/-- spec.l02Mag -/
noncomputable def spec_l02Mag (m : Int) : Option Bool :=
  (spec_l00In m (-2000) 20000).bind fun y_1 =>
  some y_1

/-- spec.l06One -/
noncomputable def spec_l06One (e_ : Estimate) : Option Bool :=
  (spec_l06Time e_.Time).bind fun y_1 =>
  ck (!y_1 || (spec_IsName e_.Star).isSome) <|
  ck (!(y_1 && ((spec_IsName e_.Star).getD default)) || (spec_IsName e_.Observer).isSome) <|
  ck (!((y_1 && ((spec_IsName e_.Star).getD default)) && ((spec_IsName e_.Observer).getD default)) || (spec_l02Mag e_.Mag).isSome) <|
  some (((y_1 && ((spec_IsName e_.Star).getD default)) && ((spec_IsName e_.Observer).getD default)) && ((spec_l02Mag e_.Mag).getD default))

noncomputable def spec_l06Ok_l1 (list : List Estimate) : Int → Option (Int ⊕ (Unit ⊕ Bool))
  | i =>
    if (decide (i < (list.length : Int))) then
      ck (ixOk i list.length) <|
      (spec_l06One (list.getD i.toNat default)).bind fun y_3 =>
      ck (!((!(!y_3)) && (decide (0 < i))) || ixOk (IntKind.i64.wrap (i - 1)) list.length) <|
      ck (!((!(!y_3)) && (decide (0 < i))) || (spec_l06Before (list.getD (IntKind.i64.wrap (i - 1)).toNat default) (list.getD i.toNat default)).isSome) <|
      if ((!y_3) || ((decide (0 < i)) && (!((spec_l06Before (list.getD (IntKind.i64.wrap (i - 1)).toNat default) (list.getD i.toNat default)).getD default)))) then
        some (.inr (.inr false))
      else
        some (.inl (IntKind.i64.wrap (i + 1)))
    else
      some (.inr (.inl ()))

/-- spec.l06Ok -/
noncomputable def spec_l06Ok (list : List Estimate) : Option Bool :=
  (whileE (spec_l06Ok_l1 list) 0).bind fun y_7 =>
  match y_7 with
  | .inl y_7a =>
    some (decide ((list.length : Int) ≤ 100))
  | .inr y_7b =>
    some y_7b

end Go.Proofs.Ytikaacjlnkfebaa
