/- Typed forms of the functions that CA reaches. No condition. -/
import Derived.Test.YtfmhpfmibopkeaaDoorEngSI
namespace Go.Proofs.YtfmhpfmibopkeaaDoor
open Go Go.RowKit
set_option linter.unusedVariables false

structure Star where
  Name : List UInt8
  Ascend : Int
  Decl : Int
  Bright : Int
  Faint : Int
  deriving Inhabited, DecidableEq
def Star_av (x : Star) : AV := .agg ([.str x.Name, .int .i64 x.Ascend, .int .i64 x.Decl, .int .i64 x.Bright, .int .i64 x.Faint])

structure L00Src where
  code_ : List UInt8
  at_ : Int
  seed_ : Int
  deriving Inhabited, DecidableEq
def L00Src_av (x : L00Src) : AV := .agg ([.sl 1 (List.map byteAV x.code_), .int .i64 x.at_, .int .u64 x.seed_])

attribute [go_sem] Star_av L00Src_av

/-- spec.l01Small -/
noncomputable def spec_l01Small (c : UInt8) : Option Bool :=
  some ((decide (97 ≤ (c.toNat : Int))) && (decide ((c.toNat : Int) ≤ 122)))

/-- spec.l01Digit -/
noncomputable def spec_l01Digit (c : UInt8) : Option Bool :=
  some ((decide (48 ≤ (c.toNat : Int))) && (decide ((c.toNat : Int) ≤ 57)))

noncomputable def spec_IsName_l1 (s_ : List UInt8) : Int → Option (Int ⊕ (Unit ⊕ Bool))
  | i =>
    if (decide (i < (s_.length : Int))) then
      ck (ixOk i s_.length) <|
      (spec_l01Small (s_.getD i.toNat 0)).bind fun y_6 =>
      ck (!(!y_6) || (spec_l01Digit (s_.getD i.toNat 0)).isSome) <|
      if (((!y_6) && (!((spec_l01Digit (s_.getD i.toNat 0)).getD default))) && (!(((s_.getD i.toNat 0).toNat : Int) == 45))) then
        some (.inr (.inr false))
      else
        some (.inl (IntKind.i64.wrap (i + 1)))
    else
      some (.inr (.inl ()))

/-- spec.IsName -/
noncomputable def spec_IsName (s_ : List UInt8) : Option Bool :=
  ck (!(!((s_ == ([] : List UInt8)) || (decide (12 < (s_.length : Int))))) || ixOk 0 s_.length) <|
  ck (!(!((s_ == ([] : List UInt8)) || (decide (12 < (s_.length : Int))))) || (spec_l01Small (s_.getD 0 0)).isSome) <|
  if (((s_ == ([] : List UInt8)) || (decide (12 < (s_.length : Int)))) || (!((spec_l01Small (s_.getD 0 0)).getD default))) then
    some false
  else
    (whileE (spec_IsName_l1 s_) 0).bind fun y_9 =>
    match y_9 with
    | .inl y_9a =>
      some true
    | .inr y_9b =>
      some y_9b

/-- spec.l00In -/
noncomputable def spec_l00In (n : Int) (low : Int) (high : Int) : Option Bool :=
  some ((decide (low ≤ n)) && (decide (n ≤ high)))

/-- spec.l04Ascend -/
noncomputable def spec_l04Ascend (n : Int) : Option Bool :=
  (spec_l00In n 0 86399).bind fun y_1 =>
  some y_1

/-- spec.l04Decl -/
noncomputable def spec_l04Decl (n : Int) : Option Bool :=
  (spec_l00In n (-324000) 324000).bind fun y_1 =>
  some y_1

/-- spec.l02Mag -/
noncomputable def spec_l02Mag (m : Int) : Option Bool :=
  (spec_l00In m (-2000) 20000).bind fun y_1 =>
  some y_1

/-- spec.l04One -/
noncomputable def spec_l04One (x : Star) : Option Bool :=
  (spec_IsName x.Name).bind fun y_1 =>
  ck (!y_1 || (spec_l04Ascend x.Ascend).isSome) <|
  ck (!(y_1 && ((spec_l04Ascend x.Ascend).getD default)) || (spec_l04Decl x.Decl).isSome) <|
  ck (!((y_1 && ((spec_l04Ascend x.Ascend).getD default)) && ((spec_l04Decl x.Decl).getD default)) || (spec_l02Mag x.Bright).isSome) <|
  ck (!(((y_1 && ((spec_l04Ascend x.Ascend).getD default)) && ((spec_l04Decl x.Decl).getD default)) && ((spec_l02Mag x.Bright).getD default)) || (spec_l02Mag x.Faint).isSome) <|
  some (((((y_1 && ((spec_l04Ascend x.Ascend).getD default)) && ((spec_l04Decl x.Decl).getD default)) && ((spec_l02Mag x.Bright).getD default)) && ((spec_l02Mag x.Faint).getD default)) && (decide (x.Bright ≤ x.Faint)))

noncomputable def spec_l04Ok_l1 (list : List Star) : Int → Option (Int ⊕ (Unit ⊕ Bool))
  | i =>
    if (decide (i < (list.length : Int))) then
      ck (ixOk i list.length) <|
      (spec_l04One (list.getD i.toNat default)).bind fun y_3 =>
      ck (!((!(!y_3)) && (decide (0 < i))) || ixOk (IntKind.i64.wrap (i - 1)) list.length) <|
      if ((!y_3) || ((decide (0 < i)) && (!(Op.bytesLess ((list.getD (IntKind.i64.wrap (i - 1)).toNat default).Name) ((list.getD i.toNat default).Name))))) then
        some (.inr (.inr false))
      else
        some (.inl (IntKind.i64.wrap (i + 1)))
    else
      some (.inr (.inl ()))

/-- spec.l04Ok -/
noncomputable def spec_l04Ok (list : List Star) : Option Bool :=
  (whileE (spec_l04Ok_l1 list) 0).bind fun y_6 =>
  match y_6 with
  | .inl y_6a =>
    some (decide ((list.length : Int) ≤ 60))
  | .inr y_6b =>
    some y_6b

/-- spec.ValidStars -/
noncomputable def spec_ValidStars (list : List Star) : Option Bool :=
  (spec_l04Ok list).bind fun y_1 =>
  some y_1

/-- laws.a2Long -/
noncomputable def laws_a2Long (code : List UInt8) (more : List UInt8) : Option Bool :=
  some ((decide (3000 < (code.length : Int))) || (decide (3000 < (more.length : Int))))

/-- spec.l00From -/
noncomputable def spec_l00From (code : List UInt8) : Option L00Src :=
  some (L00Src.mk code 0 0)

/-- spec.l04Names -/
noncomputable def spec_l04Names  : Option (List (List UInt8)) :=
  some ([([98, 101, 116, 97, 45, 108, 121, 114] : List UInt8), ([100, 101, 108, 45, 99, 101, 112] : List UInt8), ([109, 105, 114, 97] : List UInt8), ([114, 45, 99, 114, 98] : List UInt8), ([114, 114, 45, 108, 121, 114] : List UInt8), ([115, 115, 45, 99, 121, 103] : List UInt8)] : List (List UInt8))

/-- (*spec.l00Src).next -/
noncomputable def spec_l00Src_next (s_ : L00Src) : Option (Int × L00Src) :=
  if (decide (s_.at_ < (s_.code_.length : Int))) then
    ck (ixOk s_.at_ s_.code_.length) <|
    if (decide ((IntKind.i64.wrap (s_.at_ + 1)) ≤ (s_.code_.length : Int))) then
      some (((s_.code_.getD s_.at_.toNat default).toNat : Int), (L00Src.mk s_.code_ (IntKind.i64.wrap (s_.at_ + 1)) (IntKind.u64.wrap ((IntKind.u64.wrap ((IntKind.u64.wrap (s_.seed_ * 6364136223846793005)) + (IntKind.u64.wrap ((s_.code_.getD s_.at_.toNat default).toNat : Int)))) + 1442695040888963407))))
    else
      ck (shOk 40) <|
      some ((IntKind.i64.wrap (IntKind.u64.wrap (BitVec.ofInt (IntKind.bits .u64) ((IntKind.u64.wrap ((IntKind.u64.wrap ((IntKind.u64.wrap (s_.seed_ * 6364136223846793005)) + (IntKind.u64.wrap ((s_.code_.getD s_.at_.toNat default).toNat : Int)))) + 1442695040888963407)).fdiv (2 ^ (min 40 64))) &&& BitVec.ofInt (IntKind.bits .u64) 255).toNat)), (L00Src.mk s_.code_ (IntKind.i64.wrap (s_.at_ + 1)) (IntKind.u64.wrap ((IntKind.u64.wrap ((IntKind.u64.wrap (s_.seed_ * 6364136223846793005)) + (IntKind.u64.wrap ((s_.code_.getD s_.at_.toNat default).toNat : Int)))) + 1442695040888963407))))
  else
    if (decide ((IntKind.i64.wrap (s_.at_ + 1)) ≤ (s_.code_.length : Int))) then
      some (0, (L00Src.mk s_.code_ (IntKind.i64.wrap (s_.at_ + 1)) (IntKind.u64.wrap ((IntKind.u64.wrap ((IntKind.u64.wrap (s_.seed_ * 6364136223846793005)) + (IntKind.u64.wrap 0))) + 1442695040888963407))))
    else
      ck (shOk 40) <|
      some ((IntKind.i64.wrap (IntKind.u64.wrap (BitVec.ofInt (IntKind.bits .u64) ((IntKind.u64.wrap ((IntKind.u64.wrap ((IntKind.u64.wrap (s_.seed_ * 6364136223846793005)) + (IntKind.u64.wrap 0))) + 1442695040888963407)).fdiv (2 ^ (min 40 64))) &&& BitVec.ofInt (IntKind.bits .u64) 255).toNat)), (L00Src.mk s_.code_ (IntKind.i64.wrap (s_.at_ + 1)) (IntKind.u64.wrap ((IntKind.u64.wrap ((IntKind.u64.wrap (s_.seed_ * 6364136223846793005)) + (IntKind.u64.wrap 0))) + 1442695040888963407))))

/-- (*spec.l00Src).pick -/
noncomputable def spec_l00Src_pick (s_ : L00Src) (n : Int) : Option (Int × L00Src) :=
  if (decide (n ≤ 1)) then
    some (0, s_)
  else
    (spec_l00Src_next s_).bind fun y_2 =>
    if (decide (200 < n)) then
      (spec_l00Src_next y_2.2).bind fun y_4 =>
      ck (nz n) <|
      some (((IntKind.i64.wrap ((IntKind.i64.wrap (y_2.1 * 256)) + y_4.1)).tmod n), y_4.2)
    else
      ck (nz n) <|
      some ((y_2.1.tmod n), y_2.2)

/-- (*spec.l00Src).one -/
noncomputable def spec_l00Src_one (s_ : L00Src) (n : Int) : Option (Bool × L00Src) :=
  (spec_l00Src_pick s_ n).bind fun y_1 =>
  some ((y_1.1 == 0), y_1.2)

/-- spec.l00Min -/
noncomputable def spec_l00Min (a : Int) (b : Int) : Option Int :=
  if (decide (a < b)) then
    some a
  else
    some b

/-- (*spec.l00Src).among -/
noncomputable def spec_l00Src_among (s_ : L00Src) (list : List Int) : Option (Int × L00Src) :=
  (spec_l00Src_pick s_ (list.length : Int)).bind fun y_1 =>
  ck (ixOk y_1.1 list.length) <|
  some ((list.getD y_1.1.toNat default), y_1.2)

/-- spec.l02Draw -/
noncomputable def spec_l02Draw (s_ : L00Src) : Option (Int × L00Src) :=
  (spec_l00Src_one s_ 8).bind fun y_1 =>
  if y_1.1 then
    (spec_l00Src_pick y_1.2 22001).bind fun y_3 =>
    some ((IntKind.i64.wrap (y_3.1 + (-2000))), y_3.2)
  else
    (spec_l00Src_pick y_1.2 60).bind fun y_4 =>
    some ((IntKind.i64.wrap (8000 + (IntKind.i64.wrap (50 * y_4.1)))), y_4.2)

/-- spec.l04New -/
noncomputable def spec_l04New (s_ : L00Src) (name : List UInt8) : Option (Star × L00Src) :=
  (spec_l00Src_pick s_ 86400).bind fun y_1 =>
  (spec_l00Src_one y_1.2 3).bind fun y_2 =>
  if y_2.1 then
    (spec_l00Src_among y_2.2 ([0, 10, 100, 86300, 86399] : List Int)).bind fun y_4 =>
    (spec_l00Src_pick y_4.2 648001).bind fun y_5 =>
    (spec_l00Src_one y_5.2 3).bind fun y_6 =>
    if y_6.1 then
      (spec_l00Src_pick y_6.2 9).bind fun y_8 =>
      (spec_l02Draw y_8.2).bind fun y_9 =>
      (spec_l00Src_pick y_9.2 40).bind fun y_10 =>
      (spec_l00Min 20000 (IntKind.i64.wrap (y_9.1 + (IntKind.i64.wrap (100 * y_10.1))))).bind fun y_11 =>
      some ((Star.mk name y_4.1 (IntKind.i64.wrap (3600 * (IntKind.i64.wrap (y_8.1 - 4)))) y_9.1 y_11), y_10.2)
    else
      (spec_l02Draw y_6.2).bind fun y_12 =>
      (spec_l00Src_pick y_12.2 40).bind fun y_13 =>
      (spec_l00Min 20000 (IntKind.i64.wrap (y_12.1 + (IntKind.i64.wrap (100 * y_13.1))))).bind fun y_14 =>
      some ((Star.mk name y_4.1 (IntKind.i64.wrap (y_5.1 - 324000)) y_12.1 y_14), y_13.2)
  else
    (spec_l00Src_pick y_2.2 648001).bind fun y_15 =>
    (spec_l00Src_one y_15.2 3).bind fun y_16 =>
    if y_16.1 then
      (spec_l00Src_pick y_16.2 9).bind fun y_18 =>
      (spec_l02Draw y_18.2).bind fun y_19 =>
      (spec_l00Src_pick y_19.2 40).bind fun y_20 =>
      (spec_l00Min 20000 (IntKind.i64.wrap (y_19.1 + (IntKind.i64.wrap (100 * y_20.1))))).bind fun y_21 =>
      some ((Star.mk name y_1.1 (IntKind.i64.wrap (3600 * (IntKind.i64.wrap (y_18.1 - 4)))) y_19.1 y_21), y_20.2)
    else
      (spec_l02Draw y_16.2).bind fun y_22 =>
      (spec_l00Src_pick y_22.2 40).bind fun y_23 =>
      (spec_l00Min 20000 (IntKind.i64.wrap (y_22.1 + (IntKind.i64.wrap (100 * y_23.1))))).bind fun y_24 =>
      some ((Star.mk name y_1.1 (IntKind.i64.wrap (y_15.1 - 324000)) y_22.1 y_24), y_23.2)

noncomputable def spec_l04Draw_l1 (names : List (List UInt8)) : (L00Src × (List Star) × Int) → Option ((L00Src × (List Star) × Int) ⊕ (L00Src × (List Star)))
  | (s_, out, k) =>
    if (decide (k < (names.length : Int))) then
      (spec_l00Src_one s_ 2).bind fun y_3 =>
      if y_3.1 then
        ck (ixOk k names.length) <|
        (spec_l04New y_3.2 (names.getD k.toNat default)).bind fun y_6 =>
        ck (appOk (out.length + ([y_6.1] : List Star).length) 48) <|
        some (.inl (y_6.2, (out ++ ([y_6.1] : List Star)), (IntKind.i64.wrap (k + 1))))
      else
        some (.inl (y_3.2, out, (IntKind.i64.wrap (k + 1))))
    else
      some (.inr (s_, out))

/-- spec.l04Draw -/
noncomputable def spec_l04Draw (s_ : L00Src) : Option ((List Star) × L00Src) :=
  (spec_l04Names).bind fun y_1 =>
  (whileE (spec_l04Draw_l1 y_1) (s_, ([] : List Star), 0)).bind fun y_8 =>
  some (y_8.2, y_8.1)

/-- spec.A2Stars -/
noncomputable def spec_A2Stars (code : List UInt8) : Option (List Star) :=
  (spec_l00From code).bind fun y_1 =>
  (spec_l04Draw y_1).bind fun y_2 =>
  some y_2.1

/-- (*spec.l00Src).text -/
noncomputable def spec_l00Src_text (s_ : L00Src) (list : List (List UInt8)) : Option ((List UInt8) × L00Src) :=
  (spec_l00Src_pick s_ (list.length : Int)).bind fun y_1 =>
  ck (ixOk y_1.1 list.length) <|
  some ((list.getD y_1.1.toNat default), y_1.2)

/-- spec.A2Star -/
noncomputable def spec_A2Star (code : List UInt8) : Option Star :=
  (spec_l00From code).bind fun y_1 =>
  (spec_l04Names).bind fun y_2 =>
  (spec_l00Src_text y_1 y_2).bind fun y_3 =>
  (spec_l04New y_3.2 y_3.1).bind fun y_4 =>
  some y_4.1

/-- impl.in -/
noncomputable def impl_in (n : Int) (low : Int) (high : Int) : Option Bool :=
  some ((decide (low ≤ n)) && (decide (n ≤ high)))

noncomputable def impl_IsName_l1 (s_ : List UInt8) (t15 : Int) : Int → Option (Int ⊕ (Unit ⊕ Bool))
  | t16 =>
    if (decide (t16 < t15)) then
      ck (ixOk t16 s_.length) <|
      if ((!((decide (97 ≤ ((s_.getD t16.toNat 0).toNat : Int))) && (decide (((s_.getD t16.toNat 0).toNat : Int) ≤ 122)))) && ((t16 == 0) || (!(((decide (48 ≤ ((s_.getD t16.toNat 0).toNat : Int))) && (decide (((s_.getD t16.toNat 0).toNat : Int) ≤ 57))) || (((s_.getD t16.toNat 0).toNat : Int) == 45))))) then
        some (.inr (.inr false))
      else
        some (.inl (IntKind.i64.wrap (t16 + 1)))
    else
      some (.inr (.inl ()))

/-- impl.IsName -/
noncomputable def impl_IsName (s_ : List UInt8) : Option Bool :=
  if ((decide ((s_.length : Int) < 1)) || (decide (12 < (s_.length : Int)))) then
    some false
  else
    (whileE (impl_IsName_l1 s_ (s_.length : Int)) 0).bind fun y_5 =>
    match y_5 with
    | .inl y_5a =>
      some true
    | .inr y_5b =>
      some y_5b

/-- impl.ValidMag -/
noncomputable def impl_ValidMag (m : Int) : Option Bool :=
  (impl_in m (-2000) 20000).bind fun y_1 =>
  some y_1

/-- impl.isStar -/
noncomputable def impl_isStar (x : Star) : Option Bool :=
  (impl_in x.Ascend 0 86399).bind fun y_1 =>
  ck (!y_1 || (impl_in x.Decl (-324000) 324000).isSome) <|
  (impl_IsName x.Name).bind fun y_3 =>
  ck (!(y_3 && (y_1 && ((impl_in x.Decl (-324000) 324000).getD default))) || (impl_ValidMag x.Bright).isSome) <|
  ck (!((y_3 && (y_1 && ((impl_in x.Decl (-324000) 324000).getD default))) && ((impl_ValidMag x.Bright).getD default)) || (impl_ValidMag x.Faint).isSome) <|
  some ((((y_3 && (y_1 && ((impl_in x.Decl (-324000) 324000).getD default))) && ((impl_ValidMag x.Bright).getD default)) && ((impl_ValidMag x.Faint).getD default)) && (decide (x.Bright ≤ x.Faint)))

/-- impl.starName -/
noncomputable def impl_starName (x : Star) : Option (List UInt8) :=
  some x.Name

noncomputable def impl_rising_impl_Star__impl_isStar__impl_starName_l1 (list : List Star) (t15 : List Star) (t16 : Int) : Int → Option (Int ⊕ (Unit ⊕ Bool))
  | t17 =>
    if (decide (t17 < t16)) then
      ck (ixOk t17 t15.length) <|
      (impl_isStar (t15.getD t17.toNat default)).bind fun y_4 =>
      ck (!((!(!y_4)) && (decide (0 < t17))) || ixOk (IntKind.i64.wrap (t17 - 1)) list.length) <|
      ck (!((!(!y_4)) && (decide (0 < t17))) || (impl_starName (list.getD (IntKind.i64.wrap (t17 - 1)).toNat default)).isSome) <|
      ck (!((!(!y_4)) && (decide (0 < t17))) || (impl_starName (t15.getD t17.toNat default)).isSome) <|
      if ((!y_4) || ((decide (0 < t17)) && (!(Op.bytesLess ((impl_starName (list.getD (IntKind.i64.wrap (t17 - 1)).toNat default)).getD default) ((impl_starName (t15.getD t17.toNat default)).getD default))))) then
        some (.inr (.inr false))
      else
        some (.inl (IntKind.i64.wrap (t17 + 1)))
    else
      some (.inr (.inl ()))

/-- impl.rising[impl.Star] -/
noncomputable def impl_rising_impl_Star__impl_isStar__impl_starName (list : List Star) (most : Int) : Option Bool :=
  if (decide (most < (list.length : Int))) then
    some false
  else
    (whileE (impl_rising_impl_Star__impl_isStar__impl_starName_l1 list list (list.length : Int)) 0).bind fun y_9 =>
    match y_9 with
    | .inl y_9a =>
      some true
    | .inr y_9b =>
      some y_9b

/-- impl.ValidStars -/
noncomputable def impl_ValidStars (list : List Star) : Option Bool :=
  (impl_rising_impl_Star__impl_isStar__impl_starName list 60).bind fun y_1 =>
  some y_1

/-- impl.hasStar$1 -/
noncomputable def impl_hasStar_c1 (x : Star) (t1 : List UInt8) : Option Bool :=
  some (x.Name == t1)

noncomputable def slices_IndexFunc_impl_Star_impl_Star__impl_hasStar_c1_l1 (s_ : List Star) (c : List UInt8) (t7 : Int) : Int → Option (Int ⊕ (Unit ⊕ Int))
  | t8 =>
    if (decide (t8 < t7)) then
      ck (ixOk t8 s_.length) <|
      (impl_hasStar_c1 (s_.getD t8.toNat default) c).bind fun y_3 =>
      if y_3 then
        some (.inr (.inr t8))
      else
        some (.inl (IntKind.i64.wrap (t8 + 1)))
    else
      some (.inr (.inl ()))

/-- slices.IndexFunc[[]impl.Star,impl.Star] -/
noncomputable def slices_IndexFunc_impl_Star_impl_Star__impl_hasStar_c1 (s_ : List Star) (f_c0 : List UInt8) : Option Int :=
  (whileE (slices_IndexFunc_impl_Star_impl_Star__impl_hasStar_c1_l1 s_ f_c0 (s_.length : Int)) 0).bind fun y_5 =>
  match y_5 with
  | .inl y_5a =>
    some (-1)
  | .inr y_5b =>
    some y_5b

/-- slices.ContainsFunc[[]impl.Star,impl.Star] -/
noncomputable def slices_ContainsFunc_impl_Star_impl_Star__impl_hasStar_c1 (s_ : List Star) (f_c0 : List UInt8) : Option Bool :=
  (slices_IndexFunc_impl_Star_impl_Star__impl_hasStar_c1 s_ f_c0).bind fun y_1 =>
  some (decide (0 ≤ y_1))

/-- impl.hasStar -/
noncomputable def impl_hasStar (list : List Star) (name : List UInt8) : Option Bool :=
  (slices_ContainsFunc_impl_Star_impl_Star__impl_hasStar_c1 list name).bind fun y_1 =>
  some y_1

/-- impl.copyOf[impl.Star] -/
noncomputable def impl_copyOf_impl_Star (list : List Star) : Option (List Star) :=
  ck (appOk (([] : List Star).length + list.length) 48) <|
  some (([] : List Star) ++ list)


noncomputable def impl_inserted_impl_Star__impl_starName_l1 (list : List Star) (x : Star) : Int → Option (Int ⊕ Int)
  | k =>
    ck (!(decide (k < (list.length : Int))) || ixOk k list.length) <|
    ck (!(decide (k < (list.length : Int))) || (impl_starName (list.getD k.toNat default)).isSome) <|
    ck (!(decide (k < (list.length : Int))) || (impl_starName x).isSome) <|
    if ((decide (k < (list.length : Int))) && (Op.bytesLess ((impl_starName (list.getD k.toNat default)).getD default) ((impl_starName x).getD default))) then
      some (.inl (IntKind.i64.wrap (k + 1)))
    else
      some (.inr k)

/-- impl.inserted[impl.Star] -/
noncomputable def impl_inserted_impl_Star__impl_starName (list : List Star) (x : Star) : Option (List Star) :=
  (whileE (impl_inserted_impl_Star__impl_starName_l1 list x) 0).bind fun y_5 =>
  (impl_copyOf_impl_Star list).bind fun y_6 =>
  (hIns 48 y_6 y_5 ([x] : List Star)).bind fun y_7 =>
  some y_7

/-- impl.AddStar -/
noncomputable def impl_AddStar (list : List Star) (x : Star) : Option ((List Star) × Int) :=
  (impl_ValidStars list).bind fun y_1 =>
  if (!y_1) then
    some (([] : List Star), 1)
  else
    (impl_isStar x).bind fun y_3 =>
    if (!y_3) then
      some (([] : List Star), 2)
    else
      (impl_hasStar list x.Name).bind fun y_5 =>
      if y_5 then
        some (([] : List Star), 4)
      else
        if ((list.length : Int) == 60) then
          some (([] : List Star), 5)
        else
          (impl_inserted_impl_Star__impl_starName list x).bind fun y_8 =>
          some (y_8, 0)

/-- impl.StarNamed$1 -/
noncomputable def impl_StarNamed_c1 (x : Star) (t1 : List UInt8) : Option Bool :=
  some (x.Name == t1)

noncomputable def slices_IndexFunc_impl_Star_impl_Star__impl_StarNamed_c1_l1 (s_ : List Star) (c : List UInt8) (t7 : Int) : Int → Option (Int ⊕ (Unit ⊕ Int))
  | t8 =>
    if (decide (t8 < t7)) then
      ck (ixOk t8 s_.length) <|
      (impl_StarNamed_c1 (s_.getD t8.toNat default) c).bind fun y_3 =>
      if y_3 then
        some (.inr (.inr t8))
      else
        some (.inl (IntKind.i64.wrap (t8 + 1)))
    else
      some (.inr (.inl ()))

/-- slices.IndexFunc[[]impl.Star,impl.Star] -/
noncomputable def slices_IndexFunc_impl_Star_impl_Star__impl_StarNamed_c1 (s_ : List Star) (f_c0 : List UInt8) : Option Int :=
  (whileE (slices_IndexFunc_impl_Star_impl_Star__impl_StarNamed_c1_l1 s_ f_c0 (s_.length : Int)) 0).bind fun y_5 =>
  match y_5 with
  | .inl y_5a =>
    some (-1)
  | .inr y_5b =>
    some y_5b

/-- impl.indexOf[impl.Star] -/
noncomputable def impl_indexOf_impl_Star__impl_StarNamed_c1 (list : List Star) (wanted_c0 : List UInt8) : Option (Int × Int) :=
  (slices_IndexFunc_impl_Star_impl_Star__impl_StarNamed_c1 list wanted_c0).bind fun y_1 =>
  if (decide (0 ≤ y_1)) then
    some (y_1, 0)
  else
    some (0, 3)

/-- impl.StarNamed -/
noncomputable def impl_StarNamed (list : List Star) (name : List UInt8) : Option (Int × Int) :=
  (impl_ValidStars list).bind fun y_1 =>
  if (!y_1) then
    some (0, 1)
  else
    (impl_indexOf_impl_Star__impl_StarNamed_c1 list name).bind fun y_3 =>
    some (y_3.1, y_3.2)

/-- impl.orderBy$1 -/
noncomputable def impl_orderBy_c1 (t0 : Int) : Option Bool :=
  some true

noncomputable def impl_indicesWhere__impl_orderBy_c1_l1 (t8 : Int) : ((List Int) × Int) → Option (((List Int) × Int) ⊕ (List Int))
  | (out, t9) =>
    if (decide (t9 < t8)) then
      (impl_orderBy_c1 t9).bind fun y_2 =>
      if y_2 then
        ck (appOk (out.length + ([t9] : List Int).length) 8) <|
        some (.inl ((out ++ ([t9] : List Int)), (IntKind.i64.wrap (t9 + 1))))
      else
        some (.inl (out, (IntKind.i64.wrap (t9 + 1))))
    else
      some (.inr out)

/-- impl.indicesWhere -/
noncomputable def impl_indicesWhere__impl_orderBy_c1 (n : Int) : Option (List Int) :=
  (whileE (impl_indicesWhere__impl_orderBy_c1_l1 n) (([] : List Int), 0)).bind fun y_5 =>
  some y_5

/-- impl.ByAmplitude$1 -/
noncomputable def impl_ByAmplitude_c1 (i : Int) (t1 : List Star) : Option Int :=
  ck (ixOk i t1.length) <|
  some (IntKind.i64.wrap (((t1.getD i.toNat default).Bright) - ((t1.getD i.toNat default).Faint)))

/-- impl.orderBy$2 -/
noncomputable def impl_orderBy_c2 (a : Int) (b : Int) (t2_0 : List Star) : Option Int :=
  (impl_ByAmplitude_c1 a t2_0).bind fun y_1 =>
  (impl_ByAmplitude_c1 b t2_0).bind fun y_2 =>
  if (!(y_1 == y_2)) then
    if (decide (y_1 < y_2)) then
      some (-1)
    else
      some 1
  else
    some 0

noncomputable def slices_insertionSortCmpFunc_int64__impl_orderBy_c2_l2 (a : Int) (b : Int) (c : List Star) (i : Int) : ((List Int) × Int) → Option (((List Int) × Int) ⊕ (List Int))
  | (data, j) =>
    ck (!(decide (a < j)) || ixOk j data.length) <|
    ck (!(decide (a < j)) || ixOk (IntKind.i64.wrap (j - 1)) data.length) <|
    ck (!(decide (a < j)) || (impl_orderBy_c2 (data.getD j.toNat default) (data.getD (IntKind.i64.wrap (j - 1)).toNat default) c).isSome) <|
    if ((decide (a < j)) && (decide (((impl_orderBy_c2 (data.getD j.toNat default) (data.getD (IntKind.i64.wrap (j - 1)).toNat default) c).getD default) < 0))) then
      ck (ixOk (IntKind.i64.wrap (j - 1)) data.length) <|
      ck (ixOk j data.length) <|
      some (.inl (((data.set j.toNat (data.getD (IntKind.i64.wrap (j - 1)).toNat default)).set ((IntKind.i64.wrap (j - 1)).toNat) (data.getD j.toNat default)), (IntKind.i64.wrap (j - 1))))
    else
      some (.inr data)

noncomputable def slices_insertionSortCmpFunc_int64__impl_orderBy_c2_l1 (a : Int) (b : Int) (c : List Star) : ((List Int) × Int) → Option (((List Int) × Int) ⊕ (List Int))
  | (data, i) =>
    if (decide (i < b)) then
      (whileE (slices_insertionSortCmpFunc_int64__impl_orderBy_c2_l2 a b c i) (data, i)).bind fun y_9 =>
      some (.inl (y_9, (IntKind.i64.wrap (i + 1))))
    else
      some (.inr data)

/-- slices.insertionSortCmpFunc[int64] -/
noncomputable def slices_insertionSortCmpFunc_int64__impl_orderBy_c2 (data : List Int) (a : Int) (b : Int) (cmp_c0_f_0 : List Star) : Option (List Int) :=
  (whileE (slices_insertionSortCmpFunc_int64__impl_orderBy_c2_l1 a b cmp_c0_f_0) (data, (IntKind.i64.wrap (a + 1)))).bind fun y_10 =>
  ck (y_10.length == data.length) <|
  some y_10

noncomputable def slices_swapRangeCmpFunc_int64__impl_orderBy_c2_l1 (a : Int) (b : Int) (n : Int) : ((List Int) × Int) → Option (((List Int) × Int) ⊕ (List Int))
  | (data, i) =>
    if (decide (i < n)) then
      ck (ixOk (IntKind.i64.wrap (b + i)) data.length) <|
      ck (ixOk (IntKind.i64.wrap (a + i)) data.length) <|
      some (.inl (((data.set ((IntKind.i64.wrap (a + i)).toNat) (data.getD (IntKind.i64.wrap (b + i)).toNat default)).set ((IntKind.i64.wrap (b + i)).toNat) (data.getD (IntKind.i64.wrap (a + i)).toNat default)), (IntKind.i64.wrap (i + 1))))
    else
      some (.inr data)

/-- slices.swapRangeCmpFunc[int64] -/
noncomputable def slices_swapRangeCmpFunc_int64__impl_orderBy_c2 (data : List Int) (a : Int) (b : Int) (n : Int) (cmp_c0_f_0 : List Star) : Option (List Int) :=
  (whileE (slices_swapRangeCmpFunc_int64__impl_orderBy_c2_l1 a b n) (data, 0)).bind fun y_5 =>
  ck (y_5.length == data.length) <|
  some y_5

noncomputable def slices_rotateCmpFunc_int64__impl_orderBy_c2_l1 (m : Int) (c : List Star) : ((List Int) × Int × Int) → Option (((List Int) × Int × Int) ⊕ ((List Int) × Int))
  | (data, i, j) =>
    if (!(i == j)) then
      if (decide (j < i)) then
        (slices_swapRangeCmpFunc_int64__impl_orderBy_c2 data (IntKind.i64.wrap (m - i)) m j c).bind fun y_3 =>
        some (.inl (y_3, (IntKind.i64.wrap (i - j)), j))
      else
        (slices_swapRangeCmpFunc_int64__impl_orderBy_c2 data (IntKind.i64.wrap (m - i)) (IntKind.i64.wrap ((IntKind.i64.wrap (m + j)) - i)) i c).bind fun y_4 =>
        some (.inl (y_4, i, (IntKind.i64.wrap (j - i))))
    else
      some (.inr (data, i))

/-- slices.rotateCmpFunc[int64] -/
noncomputable def slices_rotateCmpFunc_int64__impl_orderBy_c2 (data : List Int) (a : Int) (m : Int) (b : Int) (cmp_c0_f_0 : List Star) : Option (List Int) :=
  (whileE (slices_rotateCmpFunc_int64__impl_orderBy_c2_l1 m cmp_c0_f_0) (data, (IntKind.i64.wrap (m - a)), (IntKind.i64.wrap (b - m)))).bind fun y_5 =>
  (slices_swapRangeCmpFunc_int64__impl_orderBy_c2 y_5.1 (IntKind.i64.wrap (m - y_5.2)) m y_5.2 cmp_c0_f_0).bind fun y_6 =>
  ck (y_6.length == data.length) <|
  some y_6

noncomputable def slices_symMergeCmpFunc_int64__impl_orderBy_c2_l1 (data : List Int) (a : Int) (c : List Star) : (Int × Int) → Option ((Int × Int) ⊕ Int)
  | (i, j) =>
    if (decide (i < j)) then
      ck (shOk 1) <|
      ck (ixOk (IntKind.i64.wrap ((IntKind.u64.wrap (IntKind.i64.wrap (i + j))).fdiv (2 ^ (min 1 64)))) data.length) <|
      ck (ixOk a data.length) <|
      (impl_orderBy_c2 (data.getD (IntKind.i64.wrap ((IntKind.u64.wrap (IntKind.i64.wrap (i + j))).fdiv (2 ^ (min 1 64)))).toNat default) (data.getD a.toNat default) c).bind fun y_6 =>
      if (decide (y_6 < 0)) then
        some (.inl ((IntKind.i64.wrap ((IntKind.i64.wrap ((IntKind.u64.wrap (IntKind.i64.wrap (i + j))).fdiv (2 ^ (min 1 64)))) + 1)), j))
      else
        some (.inl (i, (IntKind.i64.wrap ((IntKind.u64.wrap (IntKind.i64.wrap (i + j))).fdiv (2 ^ (min 1 64))))))
    else
      some (.inr i)

noncomputable def slices_symMergeCmpFunc_int64__impl_orderBy_c2_l2 (i : Int) : ((List Int) × Int) → Option (((List Int) × Int) ⊕ (List Int))
  | (data, k) =>
    if (decide (k < (IntKind.i64.wrap (i - 1)))) then
      ck (ixOk (IntKind.i64.wrap (k + 1)) data.length) <|
      ck (ixOk k data.length) <|
      some (.inl (((data.set k.toNat (data.getD (IntKind.i64.wrap (k + 1)).toNat default)).set ((IntKind.i64.wrap (k + 1)).toNat) (data.getD k.toNat default)), (IntKind.i64.wrap (k + 1))))
    else
      some (.inr data)

noncomputable def slices_symMergeCmpFunc_int64__impl_orderBy_c2_l3 (data : List Int) (m : Int) (c : List Star) : (Int × Int) → Option ((Int × Int) ⊕ Int)
  | (i, j) =>
    if (decide (i < j)) then
      ck (shOk 1) <|
      ck (ixOk m data.length) <|
      ck (ixOk (IntKind.i64.wrap ((IntKind.u64.wrap (IntKind.i64.wrap (i + j))).fdiv (2 ^ (min 1 64)))) data.length) <|
      (impl_orderBy_c2 (data.getD m.toNat default) (data.getD (IntKind.i64.wrap ((IntKind.u64.wrap (IntKind.i64.wrap (i + j))).fdiv (2 ^ (min 1 64)))).toNat default) c).bind fun y_20 =>
      if (!(decide (y_20 < 0))) then
        some (.inl ((IntKind.i64.wrap ((IntKind.i64.wrap ((IntKind.u64.wrap (IntKind.i64.wrap (i + j))).fdiv (2 ^ (min 1 64)))) + 1)), j))
      else
        some (.inl (i, (IntKind.i64.wrap ((IntKind.u64.wrap (IntKind.i64.wrap (i + j))).fdiv (2 ^ (min 1 64))))))
    else
      some (.inr i)

noncomputable def slices_symMergeCmpFunc_int64__impl_orderBy_c2_l4 (i : Int) : ((List Int) × Int) → Option (((List Int) × Int) ⊕ (List Int))
  | (data, k) =>
    if (decide (i < k)) then
      ck (ixOk (IntKind.i64.wrap (k - 1)) data.length) <|
      ck (ixOk k data.length) <|
      some (.inl (((data.set k.toNat (data.getD (IntKind.i64.wrap (k - 1)).toNat default)).set ((IntKind.i64.wrap (k - 1)).toNat) (data.getD k.toNat default)), (IntKind.i64.wrap (k - 1))))
    else
      some (.inr data)

noncomputable def slices_symMergeCmpFunc_int64__impl_orderBy_c2_l5 (data : List Int) (a : Int) (m : Int) (b : Int) (c : List Star) (mid : Int) (n : Int) (p : Int) : (Int × Int) → Option ((Int × Int) ⊕ Int)
  | (start, r) =>
    if (decide (start < r)) then
      ck (shOk 1) <|
      ck (ixOk (IntKind.i64.wrap (p - (IntKind.i64.wrap ((IntKind.u64.wrap (IntKind.i64.wrap (start + r))).fdiv (2 ^ (min 1 64)))))) data.length) <|
      ck (ixOk (IntKind.i64.wrap ((IntKind.u64.wrap (IntKind.i64.wrap (start + r))).fdiv (2 ^ (min 1 64)))) data.length) <|
      (impl_orderBy_c2 (data.getD (IntKind.i64.wrap (p - (IntKind.i64.wrap ((IntKind.u64.wrap (IntKind.i64.wrap (start + r))).fdiv (2 ^ (min 1 64)))))).toNat default) (data.getD (IntKind.i64.wrap ((IntKind.u64.wrap (IntKind.i64.wrap (start + r))).fdiv (2 ^ (min 1 64)))).toNat default) c).bind fun y_35 =>
      if (!(decide (y_35 < 0))) then
        some (.inl ((IntKind.i64.wrap ((IntKind.i64.wrap ((IntKind.u64.wrap (IntKind.i64.wrap (start + r))).fdiv (2 ^ (min 1 64)))) + 1)), r))
      else
        some (.inl (start, (IntKind.i64.wrap ((IntKind.u64.wrap (IntKind.i64.wrap (start + r))).fdiv (2 ^ (min 1 64))))))
    else
      some (.inr start)

noncomputable def slices_symMergeCmpFunc_int64__impl_orderBy_c2_l6 (data : List Int) (a : Int) (m : Int) (b : Int) (c : List Star) (mid : Int) (n : Int) (p : Int) : (Int × Int) → Option ((Int × Int) ⊕ Int)
  | (start, r) =>
    if (decide (start < r)) then
      ck (shOk 1) <|
      ck (ixOk (IntKind.i64.wrap (p - (IntKind.i64.wrap ((IntKind.u64.wrap (IntKind.i64.wrap (start + r))).fdiv (2 ^ (min 1 64)))))) data.length) <|
      ck (ixOk (IntKind.i64.wrap ((IntKind.u64.wrap (IntKind.i64.wrap (start + r))).fdiv (2 ^ (min 1 64)))) data.length) <|
      (impl_orderBy_c2 (data.getD (IntKind.i64.wrap (p - (IntKind.i64.wrap ((IntKind.u64.wrap (IntKind.i64.wrap (start + r))).fdiv (2 ^ (min 1 64)))))).toNat default) (data.getD (IntKind.i64.wrap ((IntKind.u64.wrap (IntKind.i64.wrap (start + r))).fdiv (2 ^ (min 1 64)))).toNat default) c).bind fun y_63 =>
      if (!(decide (y_63 < 0))) then
        some (.inl ((IntKind.i64.wrap ((IntKind.i64.wrap ((IntKind.u64.wrap (IntKind.i64.wrap (start + r))).fdiv (2 ^ (min 1 64)))) + 1)), r))
      else
        some (.inl (start, (IntKind.i64.wrap ((IntKind.u64.wrap (IntKind.i64.wrap (start + r))).fdiv (2 ^ (min 1 64))))))
    else
      some (.inr start)
/-- slices.symMergeCmpFunc[int64], to a depth -/
noncomputable def slices_symMergeCmpFunc_int64__impl_orderBy_c2_n : Nat → (List Int) → Int → Int → Int → (List Star) → Option (List Int)
  | 0, _, _, _, _, _ => none
  | n_ + 1, data, a, m, b, cmp_c0_f_0 =>
    if ((IntKind.i64.wrap (m - a)) == 1) then
      (whileE (slices_symMergeCmpFunc_int64__impl_orderBy_c2_l1 data a cmp_c0_f_0) (m, b)).bind fun y_8 =>
      (whileE (slices_symMergeCmpFunc_int64__impl_orderBy_c2_l2 y_8) (data, a)).bind fun y_13 =>
      ck (y_13.length == data.length) <|
      some y_13
    else
      if ((IntKind.i64.wrap (b - m)) == 1) then
        (whileE (slices_symMergeCmpFunc_int64__impl_orderBy_c2_l3 data m cmp_c0_f_0) (a, m)).bind fun y_22 =>
        (whileE (slices_symMergeCmpFunc_int64__impl_orderBy_c2_l4 y_22) (data, m)).bind fun y_27 =>
        ck (y_27.length == data.length) <|
        some y_27
      else
        ck (shOk 1) <|
        if (decide ((IntKind.i64.wrap ((IntKind.u64.wrap (IntKind.i64.wrap (a + b))).fdiv (2 ^ (min 1 64)))) < m)) then
          (whileE (slices_symMergeCmpFunc_int64__impl_orderBy_c2_l5 data a m b cmp_c0_f_0 (IntKind.i64.wrap ((IntKind.u64.wrap (IntKind.i64.wrap (a + b))).fdiv (2 ^ (min 1 64)))) (IntKind.i64.wrap ((IntKind.i64.wrap ((IntKind.u64.wrap (IntKind.i64.wrap (a + b))).fdiv (2 ^ (min 1 64)))) + m)) (IntKind.i64.wrap ((IntKind.i64.wrap ((IntKind.i64.wrap ((IntKind.u64.wrap (IntKind.i64.wrap (a + b))).fdiv (2 ^ (min 1 64)))) + m)) - 1))) ((IntKind.i64.wrap ((IntKind.i64.wrap ((IntKind.i64.wrap ((IntKind.u64.wrap (IntKind.i64.wrap (a + b))).fdiv (2 ^ (min 1 64)))) + m)) - b)), (IntKind.i64.wrap ((IntKind.u64.wrap (IntKind.i64.wrap (a + b))).fdiv (2 ^ (min 1 64)))))).bind fun y_37 =>
          if ((decide (y_37 < m)) && (decide (m < (IntKind.i64.wrap ((IntKind.i64.wrap ((IntKind.i64.wrap ((IntKind.u64.wrap (IntKind.i64.wrap (a + b))).fdiv (2 ^ (min 1 64)))) + m)) - y_37))))) then
            (slices_rotateCmpFunc_int64__impl_orderBy_c2 data y_37 m (IntKind.i64.wrap ((IntKind.i64.wrap ((IntKind.i64.wrap ((IntKind.u64.wrap (IntKind.i64.wrap (a + b))).fdiv (2 ^ (min 1 64)))) + m)) - y_37)) cmp_c0_f_0).bind fun y_39 =>
            if ((decide (a < y_37)) && (decide (y_37 < (IntKind.i64.wrap ((IntKind.u64.wrap (IntKind.i64.wrap (a + b))).fdiv (2 ^ (min 1 64))))))) then
              (slices_symMergeCmpFunc_int64__impl_orderBy_c2_n n_ y_39 a y_37 (IntKind.i64.wrap ((IntKind.u64.wrap (IntKind.i64.wrap (a + b))).fdiv (2 ^ (min 1 64)))) cmp_c0_f_0).bind fun y_41 =>
              if ((decide ((IntKind.i64.wrap ((IntKind.u64.wrap (IntKind.i64.wrap (a + b))).fdiv (2 ^ (min 1 64)))) < (IntKind.i64.wrap ((IntKind.i64.wrap ((IntKind.i64.wrap ((IntKind.u64.wrap (IntKind.i64.wrap (a + b))).fdiv (2 ^ (min 1 64)))) + m)) - y_37)))) && (decide ((IntKind.i64.wrap ((IntKind.i64.wrap ((IntKind.i64.wrap ((IntKind.u64.wrap (IntKind.i64.wrap (a + b))).fdiv (2 ^ (min 1 64)))) + m)) - y_37)) < b))) then
                (slices_symMergeCmpFunc_int64__impl_orderBy_c2_n n_ y_41 (IntKind.i64.wrap ((IntKind.u64.wrap (IntKind.i64.wrap (a + b))).fdiv (2 ^ (min 1 64)))) (IntKind.i64.wrap ((IntKind.i64.wrap ((IntKind.i64.wrap ((IntKind.u64.wrap (IntKind.i64.wrap (a + b))).fdiv (2 ^ (min 1 64)))) + m)) - y_37)) b cmp_c0_f_0).bind fun y_43 =>
                ck (y_43.length == data.length) <|
                some y_43
              else
                ck (y_41.length == data.length) <|
                some y_41
            else
              if ((decide ((IntKind.i64.wrap ((IntKind.u64.wrap (IntKind.i64.wrap (a + b))).fdiv (2 ^ (min 1 64)))) < (IntKind.i64.wrap ((IntKind.i64.wrap ((IntKind.i64.wrap ((IntKind.u64.wrap (IntKind.i64.wrap (a + b))).fdiv (2 ^ (min 1 64)))) + m)) - y_37)))) && (decide ((IntKind.i64.wrap ((IntKind.i64.wrap ((IntKind.i64.wrap ((IntKind.u64.wrap (IntKind.i64.wrap (a + b))).fdiv (2 ^ (min 1 64)))) + m)) - y_37)) < b))) then
                (slices_symMergeCmpFunc_int64__impl_orderBy_c2_n n_ y_39 (IntKind.i64.wrap ((IntKind.u64.wrap (IntKind.i64.wrap (a + b))).fdiv (2 ^ (min 1 64)))) (IntKind.i64.wrap ((IntKind.i64.wrap ((IntKind.i64.wrap ((IntKind.u64.wrap (IntKind.i64.wrap (a + b))).fdiv (2 ^ (min 1 64)))) + m)) - y_37)) b cmp_c0_f_0).bind fun y_47 =>
                ck (y_47.length == data.length) <|
                some y_47
              else
                ck (y_39.length == data.length) <|
                some y_39
          else
            if ((decide (a < y_37)) && (decide (y_37 < (IntKind.i64.wrap ((IntKind.u64.wrap (IntKind.i64.wrap (a + b))).fdiv (2 ^ (min 1 64))))))) then
              (slices_symMergeCmpFunc_int64__impl_orderBy_c2_n n_ data a y_37 (IntKind.i64.wrap ((IntKind.u64.wrap (IntKind.i64.wrap (a + b))).fdiv (2 ^ (min 1 64)))) cmp_c0_f_0).bind fun y_51 =>
              if ((decide ((IntKind.i64.wrap ((IntKind.u64.wrap (IntKind.i64.wrap (a + b))).fdiv (2 ^ (min 1 64)))) < (IntKind.i64.wrap ((IntKind.i64.wrap ((IntKind.i64.wrap ((IntKind.u64.wrap (IntKind.i64.wrap (a + b))).fdiv (2 ^ (min 1 64)))) + m)) - y_37)))) && (decide ((IntKind.i64.wrap ((IntKind.i64.wrap ((IntKind.i64.wrap ((IntKind.u64.wrap (IntKind.i64.wrap (a + b))).fdiv (2 ^ (min 1 64)))) + m)) - y_37)) < b))) then
                (slices_symMergeCmpFunc_int64__impl_orderBy_c2_n n_ y_51 (IntKind.i64.wrap ((IntKind.u64.wrap (IntKind.i64.wrap (a + b))).fdiv (2 ^ (min 1 64)))) (IntKind.i64.wrap ((IntKind.i64.wrap ((IntKind.i64.wrap ((IntKind.u64.wrap (IntKind.i64.wrap (a + b))).fdiv (2 ^ (min 1 64)))) + m)) - y_37)) b cmp_c0_f_0).bind fun y_53 =>
                ck (y_53.length == data.length) <|
                some y_53
              else
                ck (y_51.length == data.length) <|
                some y_51
            else
              if ((decide ((IntKind.i64.wrap ((IntKind.u64.wrap (IntKind.i64.wrap (a + b))).fdiv (2 ^ (min 1 64)))) < (IntKind.i64.wrap ((IntKind.i64.wrap ((IntKind.i64.wrap ((IntKind.u64.wrap (IntKind.i64.wrap (a + b))).fdiv (2 ^ (min 1 64)))) + m)) - y_37)))) && (decide ((IntKind.i64.wrap ((IntKind.i64.wrap ((IntKind.i64.wrap ((IntKind.u64.wrap (IntKind.i64.wrap (a + b))).fdiv (2 ^ (min 1 64)))) + m)) - y_37)) < b))) then
                (slices_symMergeCmpFunc_int64__impl_orderBy_c2_n n_ data (IntKind.i64.wrap ((IntKind.u64.wrap (IntKind.i64.wrap (a + b))).fdiv (2 ^ (min 1 64)))) (IntKind.i64.wrap ((IntKind.i64.wrap ((IntKind.i64.wrap ((IntKind.u64.wrap (IntKind.i64.wrap (a + b))).fdiv (2 ^ (min 1 64)))) + m)) - y_37)) b cmp_c0_f_0).bind fun y_57 =>
                ck (y_57.length == data.length) <|
                some y_57
              else
                some data
        else
          (whileE (slices_symMergeCmpFunc_int64__impl_orderBy_c2_l6 data a m b cmp_c0_f_0 (IntKind.i64.wrap ((IntKind.u64.wrap (IntKind.i64.wrap (a + b))).fdiv (2 ^ (min 1 64)))) (IntKind.i64.wrap ((IntKind.i64.wrap ((IntKind.u64.wrap (IntKind.i64.wrap (a + b))).fdiv (2 ^ (min 1 64)))) + m)) (IntKind.i64.wrap ((IntKind.i64.wrap ((IntKind.i64.wrap ((IntKind.u64.wrap (IntKind.i64.wrap (a + b))).fdiv (2 ^ (min 1 64)))) + m)) - 1))) (a, m)).bind fun y_65 =>
          if ((decide (y_65 < m)) && (decide (m < (IntKind.i64.wrap ((IntKind.i64.wrap ((IntKind.i64.wrap ((IntKind.u64.wrap (IntKind.i64.wrap (a + b))).fdiv (2 ^ (min 1 64)))) + m)) - y_65))))) then
            (slices_rotateCmpFunc_int64__impl_orderBy_c2 data y_65 m (IntKind.i64.wrap ((IntKind.i64.wrap ((IntKind.i64.wrap ((IntKind.u64.wrap (IntKind.i64.wrap (a + b))).fdiv (2 ^ (min 1 64)))) + m)) - y_65)) cmp_c0_f_0).bind fun y_67 =>
            if ((decide (a < y_65)) && (decide (y_65 < (IntKind.i64.wrap ((IntKind.u64.wrap (IntKind.i64.wrap (a + b))).fdiv (2 ^ (min 1 64))))))) then
              (slices_symMergeCmpFunc_int64__impl_orderBy_c2_n n_ y_67 a y_65 (IntKind.i64.wrap ((IntKind.u64.wrap (IntKind.i64.wrap (a + b))).fdiv (2 ^ (min 1 64)))) cmp_c0_f_0).bind fun y_69 =>
              if ((decide ((IntKind.i64.wrap ((IntKind.u64.wrap (IntKind.i64.wrap (a + b))).fdiv (2 ^ (min 1 64)))) < (IntKind.i64.wrap ((IntKind.i64.wrap ((IntKind.i64.wrap ((IntKind.u64.wrap (IntKind.i64.wrap (a + b))).fdiv (2 ^ (min 1 64)))) + m)) - y_65)))) && (decide ((IntKind.i64.wrap ((IntKind.i64.wrap ((IntKind.i64.wrap ((IntKind.u64.wrap (IntKind.i64.wrap (a + b))).fdiv (2 ^ (min 1 64)))) + m)) - y_65)) < b))) then
                (slices_symMergeCmpFunc_int64__impl_orderBy_c2_n n_ y_69 (IntKind.i64.wrap ((IntKind.u64.wrap (IntKind.i64.wrap (a + b))).fdiv (2 ^ (min 1 64)))) (IntKind.i64.wrap ((IntKind.i64.wrap ((IntKind.i64.wrap ((IntKind.u64.wrap (IntKind.i64.wrap (a + b))).fdiv (2 ^ (min 1 64)))) + m)) - y_65)) b cmp_c0_f_0).bind fun y_71 =>
                ck (y_71.length == data.length) <|
                some y_71
              else
                ck (y_69.length == data.length) <|
                some y_69
            else
              if ((decide ((IntKind.i64.wrap ((IntKind.u64.wrap (IntKind.i64.wrap (a + b))).fdiv (2 ^ (min 1 64)))) < (IntKind.i64.wrap ((IntKind.i64.wrap ((IntKind.i64.wrap ((IntKind.u64.wrap (IntKind.i64.wrap (a + b))).fdiv (2 ^ (min 1 64)))) + m)) - y_65)))) && (decide ((IntKind.i64.wrap ((IntKind.i64.wrap ((IntKind.i64.wrap ((IntKind.u64.wrap (IntKind.i64.wrap (a + b))).fdiv (2 ^ (min 1 64)))) + m)) - y_65)) < b))) then
                (slices_symMergeCmpFunc_int64__impl_orderBy_c2_n n_ y_67 (IntKind.i64.wrap ((IntKind.u64.wrap (IntKind.i64.wrap (a + b))).fdiv (2 ^ (min 1 64)))) (IntKind.i64.wrap ((IntKind.i64.wrap ((IntKind.i64.wrap ((IntKind.u64.wrap (IntKind.i64.wrap (a + b))).fdiv (2 ^ (min 1 64)))) + m)) - y_65)) b cmp_c0_f_0).bind fun y_75 =>
                ck (y_75.length == data.length) <|
                some y_75
              else
                ck (y_67.length == data.length) <|
                some y_67
          else
            if ((decide (a < y_65)) && (decide (y_65 < (IntKind.i64.wrap ((IntKind.u64.wrap (IntKind.i64.wrap (a + b))).fdiv (2 ^ (min 1 64))))))) then
              (slices_symMergeCmpFunc_int64__impl_orderBy_c2_n n_ data a y_65 (IntKind.i64.wrap ((IntKind.u64.wrap (IntKind.i64.wrap (a + b))).fdiv (2 ^ (min 1 64)))) cmp_c0_f_0).bind fun y_79 =>
              if ((decide ((IntKind.i64.wrap ((IntKind.u64.wrap (IntKind.i64.wrap (a + b))).fdiv (2 ^ (min 1 64)))) < (IntKind.i64.wrap ((IntKind.i64.wrap ((IntKind.i64.wrap ((IntKind.u64.wrap (IntKind.i64.wrap (a + b))).fdiv (2 ^ (min 1 64)))) + m)) - y_65)))) && (decide ((IntKind.i64.wrap ((IntKind.i64.wrap ((IntKind.i64.wrap ((IntKind.u64.wrap (IntKind.i64.wrap (a + b))).fdiv (2 ^ (min 1 64)))) + m)) - y_65)) < b))) then
                (slices_symMergeCmpFunc_int64__impl_orderBy_c2_n n_ y_79 (IntKind.i64.wrap ((IntKind.u64.wrap (IntKind.i64.wrap (a + b))).fdiv (2 ^ (min 1 64)))) (IntKind.i64.wrap ((IntKind.i64.wrap ((IntKind.i64.wrap ((IntKind.u64.wrap (IntKind.i64.wrap (a + b))).fdiv (2 ^ (min 1 64)))) + m)) - y_65)) b cmp_c0_f_0).bind fun y_81 =>
                ck (y_81.length == data.length) <|
                some y_81
              else
                ck (y_79.length == data.length) <|
                some y_79
            else
              if ((decide ((IntKind.i64.wrap ((IntKind.u64.wrap (IntKind.i64.wrap (a + b))).fdiv (2 ^ (min 1 64)))) < (IntKind.i64.wrap ((IntKind.i64.wrap ((IntKind.i64.wrap ((IntKind.u64.wrap (IntKind.i64.wrap (a + b))).fdiv (2 ^ (min 1 64)))) + m)) - y_65)))) && (decide ((IntKind.i64.wrap ((IntKind.i64.wrap ((IntKind.i64.wrap ((IntKind.u64.wrap (IntKind.i64.wrap (a + b))).fdiv (2 ^ (min 1 64)))) + m)) - y_65)) < b))) then
                (slices_symMergeCmpFunc_int64__impl_orderBy_c2_n n_ data (IntKind.i64.wrap ((IntKind.u64.wrap (IntKind.i64.wrap (a + b))).fdiv (2 ^ (min 1 64)))) (IntKind.i64.wrap ((IntKind.i64.wrap ((IntKind.i64.wrap ((IntKind.u64.wrap (IntKind.i64.wrap (a + b))).fdiv (2 ^ (min 1 64)))) + m)) - y_65)) b cmp_c0_f_0).bind fun y_85 =>
                ck (y_85.length == data.length) <|
                some y_85
              else
                some data
noncomputable def slices_symMergeCmpFunc_int64__impl_orderBy_c2 (data : List Int) (a : Int) (m : Int) (b : Int) (cmp_c0_f_0 : List Star) : Option (List Int) := slices_symMergeCmpFunc_int64__impl_orderBy_c2_n 64 data a m b cmp_c0_f_0

noncomputable def slices_stableCmpFunc_int64__impl_orderBy_c2_l1 (n : Int) (c : List Star) (blockSize : Int) : ((List Int) × Int × Int) → Option (((List Int) × Int × Int) ⊕ ((List Int) × Int))
  | (data, a, b) =>
    if (decide (b ≤ n)) then
      (slices_insertionSortCmpFunc_int64__impl_orderBy_c2 data a b c).bind fun y_2 =>
      some (.inl (y_2, b, (IntKind.i64.wrap (b + blockSize))))
    else
      some (.inr (data, a))

noncomputable def slices_stableCmpFunc_int64__impl_orderBy_c2_l3 (n : Int) (c : List Star) (blockSize : Int) : ((List Int) × Int × Int) → Option (((List Int) × Int × Int) ⊕ ((List Int) × Int))
  | (data, a, b) =>
    if (decide (b ≤ n)) then
      (slices_symMergeCmpFunc_int64__impl_orderBy_c2 data a (IntKind.i64.wrap (a + blockSize)) b c).bind fun y_7 =>
      some (.inl (y_7, b, (IntKind.i64.wrap (b + (IntKind.i64.wrap (2 * blockSize))))))
    else
      some (.inr (data, a))

noncomputable def slices_stableCmpFunc_int64__impl_orderBy_c2_l2 (n : Int) (c : List Star) : ((List Int) × Int) → Option (((List Int) × Int) ⊕ (List Int))
  | (data, blockSize) =>
    if (decide (blockSize < n)) then
      (whileE (slices_stableCmpFunc_int64__impl_orderBy_c2_l3 n c blockSize) (data, 0, (IntKind.i64.wrap (2 * blockSize)))).bind fun y_8 =>
      if (decide ((IntKind.i64.wrap (y_8.2 + blockSize)) < n)) then
        (slices_symMergeCmpFunc_int64__impl_orderBy_c2 y_8.1 y_8.2 (IntKind.i64.wrap (y_8.2 + blockSize)) n c).bind fun y_10 =>
        some (.inl (y_10, (IntKind.i64.wrap (blockSize * 2))))
      else
        some (.inl (y_8.1, (IntKind.i64.wrap (blockSize * 2))))
    else
      some (.inr data)

/-- slices.stableCmpFunc[int64] -/
noncomputable def slices_stableCmpFunc_int64__impl_orderBy_c2 (data : List Int) (n : Int) (cmp_c0_f_0 : List Star) : Option (List Int) :=
  (whileE (slices_stableCmpFunc_int64__impl_orderBy_c2_l1 n cmp_c0_f_0 20) (data, 0, 20)).bind fun y_3 =>
  (slices_insertionSortCmpFunc_int64__impl_orderBy_c2 y_3.1 y_3.2 n cmp_c0_f_0).bind fun y_4 =>
  (whileE (slices_stableCmpFunc_int64__impl_orderBy_c2_l2 n cmp_c0_f_0) (y_4, 20)).bind fun y_11 =>
  ck (y_11.length == data.length) <|
  some y_11

/-- slices.SortStableFunc[[]int64,int64] -/
noncomputable def slices_SortStableFunc_int64_int64__impl_orderBy_c2 (x : List Int) (cmp_c0_f_0 : List Star) : Option (List Int) :=
  (slices_stableCmpFunc_int64__impl_orderBy_c2 x (x.length : Int) cmp_c0_f_0).bind fun y_1 =>
  ck (y_1.length == x.length) <|
  some y_1

/-- impl.orderBy -/
noncomputable def impl_orderBy__impl_ByAmplitude_c1 (n : Int) (number_c0 : List Star) : Option (List Int) :=
  (impl_indicesWhere__impl_orderBy_c1 n).bind fun y_1 =>
  (slices_SortStableFunc_int64_int64__impl_orderBy_c2 y_1 number_c0).bind fun y_2 =>
  some y_2

/-- impl.ByAmplitude -/
noncomputable def impl_ByAmplitude (list : List Star) : Option ((List Int) × Int) :=
  (impl_ValidStars list).bind fun y_1 =>
  if (!y_1) then
    some (([] : List Int), 1)
  else
    (impl_orderBy__impl_ByAmplitude_c1 (list.length : Int) list).bind fun y_3 =>
    some (y_3, 0)

noncomputable def laws_a2Has_l1 (list : List Int) (n : Int) : Int → Option (Int ⊕ (Unit ⊕ Bool))
  | i =>
    if (decide (i < (list.length : Int))) then
      ck (ixOk i list.length) <|
      if ((list.getD i.toNat default) == n) then
        some (.inr (.inr true))
      else
        some (.inl (IntKind.i64.wrap (i + 1)))
    else
      some (.inr (.inl ()))

/-- laws.a2Has -/
noncomputable def laws_a2Has (list : List Int) (n : Int) : Option Bool :=
  (whileE (laws_a2Has_l1 list n) 0).bind fun y_4 =>
  match y_4 with
  | .inl y_4a =>
    some false
  | .inr y_4b =>
    some y_4b

/-- impl.VisibleAt$1 -/
noncomputable def impl_VisibleAt_c1 (i : Int) (t1 : Int) (t2 : List Star) : Option Bool :=
  ck (ixOk i t2.length) <|
  (impl_in t1 ((t2.getD i.toNat default).Bright) ((t2.getD i.toNat default).Faint)).bind fun y_2 =>
  some y_2

noncomputable def impl_indicesWhere__impl_VisibleAt_c1_l1 (c : Int) (c2 : List Star) (t8 : Int) : ((List Int) × Int) → Option (((List Int) × Int) ⊕ (List Int))
  | (out, t9) =>
    if (decide (t9 < t8)) then
      (impl_VisibleAt_c1 t9 c c2).bind fun y_2 =>
      if y_2 then
        ck (appOk (out.length + ([t9] : List Int).length) 8) <|
        some (.inl ((out ++ ([t9] : List Int)), (IntKind.i64.wrap (t9 + 1))))
      else
        some (.inl (out, (IntKind.i64.wrap (t9 + 1))))
    else
      some (.inr out)

/-- impl.indicesWhere -/
noncomputable def impl_indicesWhere__impl_VisibleAt_c1 (n : Int) (wanted_c0 : Int) (wanted_c1 : List Star) : Option (List Int) :=
  (whileE (impl_indicesWhere__impl_VisibleAt_c1_l1 wanted_c0 wanted_c1 n) (([] : List Int), 0)).bind fun y_5 =>
  some y_5

/-- impl.VisibleAt -/
noncomputable def impl_VisibleAt (list : List Star) (m : Int) : Option ((List Int) × Int) :=
  (impl_ValidStars list).bind fun y_1 =>
  if (!y_1) then
    some (([] : List Int), 1)
  else
    (impl_ValidMag m).bind fun y_3 =>
    if (!y_3) then
      some (([] : List Int), 2)
    else
      (impl_indicesWhere__impl_VisibleAt_c1 (list.length : Int) m list).bind fun y_5 =>
      some (y_5, 0)


/-- strconv.FormatInt -/
noncomputable def strconv_FormatInt (i : Int) (base : Int) : Option (List UInt8) :=
  (hFmt i base).bind fun y_1 =>
  some y_1

/-- impl.Decimal -/
noncomputable def impl_Decimal (n : Int) : Option (List UInt8) :=
  (strconv_FormatInt n 10).bind fun y_1 =>
  some y_1

noncomputable def impl_padded_l1 (digits : Int) : (List UInt8) → Option ((List UInt8) ⊕ (List UInt8))
  | s_ =>
    if (decide ((s_.length : Int) < digits)) then
      ck (catOk ([48] : List UInt8).length s_.length) <|
      some (.inl (([48] : List UInt8) ++ s_))
    else
      some (.inr s_)

/-- impl.padded -/
noncomputable def impl_padded (n : Int) (digits : Int) : Option (List UInt8) :=
  (impl_Decimal n).bind fun y_1 =>
  (whileE (impl_padded_l1 digits) y_1).bind fun y_4 =>
  some y_4


/-- impl.sexagesimal -/
noncomputable def impl_sexagesimal (n : Int) : Option (List UInt8) :=
  ck (nz 3600) <|
  (impl_padded (IntKind.i64.wrap (n.tdiv 3600)) 2).bind fun y_2 =>
  ck (nz 60) <|
  (impl_padded ((IntKind.i64.wrap (n.tdiv 60)).tmod 60) 2).bind fun y_4 =>
  (impl_padded (n.tmod 60) 2).bind fun y_5 =>
  (hJoin ([y_2, y_4, y_5] : List (List UInt8)) ([58] : List UInt8)).bind fun y_6 =>
  some y_6

/-- impl.abs -/
noncomputable def impl_abs (n : Int) : Option Int :=
  if (decide (n < 0)) then
    some (IntKind.i64.wrap (0 - n))
  else
    some n

/-- impl.PositionText -/
noncomputable def impl_PositionText (x : Star) : Option (List UInt8) :=
  (impl_isStar x).bind fun y_1 =>
  if (!y_1) then
    some ([] : List UInt8)
  else
    if (decide (x.Decl < 0)) then
      (impl_sexagesimal x.Ascend).bind fun y_4 =>
      ck (catOk y_4.length ([32, 45] : List UInt8).length) <|
      (impl_abs x.Decl).bind fun y_6 =>
      (impl_sexagesimal y_6).bind fun y_7 =>
      ck (catOk (y_4 ++ ([32, 45] : List UInt8)).length y_7.length) <|
      some ((y_4 ++ ([32, 45] : List UInt8)) ++ y_7)
    else
      (impl_sexagesimal x.Ascend).bind fun y_9 =>
      ck (catOk y_9.length ([32, 43] : List UInt8).length) <|
      (impl_abs x.Decl).bind fun y_11 =>
      (impl_sexagesimal y_11).bind fun y_12 =>
      ck (catOk (y_9 ++ ([32, 43] : List UInt8)).length y_12.length) <|
      some ((y_9 ++ ([32, 43] : List UInt8)) ++ y_12)

noncomputable def laws_FnCatalogues_l1 (list : List Star) (order : List Int) : Int → Option (Int ⊕ (Unit ⊕ Bool))
  | i =>
    if (decide (i < (order.length : Int))) then
      ck (ixOk i order.length) <|
      ck (!(!((decide ((order.getD i.toNat default) < 0)) || (decide ((list.length : Int) ≤ (order.getD i.toNat default))))) || cutOk 0 i order.length) <|
      ck (!(!((decide ((order.getD i.toNat default) < 0)) || (decide ((list.length : Int) ≤ (order.getD i.toNat default))))) || (laws_a2Has (cut order 0 i) (order.getD i.toNat default)).isSome) <|
      if (((decide ((order.getD i.toNat default) < 0)) || (decide ((list.length : Int) ≤ (order.getD i.toNat default)))) || ((laws_a2Has (cut order 0 i) (order.getD i.toNat default)).getD default)) then
        some (.inr (.inr false))
      else
        if (decide (0 < i)) then
          ck (ixOk (IntKind.i64.wrap (i - 1)) order.length) <|
          ck (ixOk (order.getD (IntKind.i64.wrap (i - 1)).toNat default) list.length) <|
          ck (ixOk (order.getD i.toNat default) list.length) <|
          if (decide ((IntKind.i64.wrap (((list.getD (order.getD (IntKind.i64.wrap (i - 1)).toNat default).toNat default).Faint) - ((list.getD (order.getD (IntKind.i64.wrap (i - 1)).toNat default).toNat default).Bright))) < (IntKind.i64.wrap (((list.getD (order.getD i.toNat default).toNat default).Faint) - ((list.getD (order.getD i.toNat default).toNat default).Bright))))) then
            some (.inr (.inr false))
          else
            (impl_VisibleAt list ((list.getD (order.getD i.toNat default).toNat default).Faint)).bind fun y_24 =>
            ck (!(!(!(y_24.2 == 0))) || (laws_a2Has y_24.1 (order.getD i.toNat default)).isSome) <|
            ck (!(!((!(y_24.2 == 0)) || (!((laws_a2Has y_24.1 (order.getD i.toNat default)).getD default)))) || (impl_PositionText (list.getD (order.getD i.toNat default).toNat default)).isSome) <|
            if (((!(y_24.2 == 0)) || (!((laws_a2Has y_24.1 (order.getD i.toNat default)).getD default))) || (((impl_PositionText (list.getD (order.getD i.toNat default).toNat default)).getD default) == ([] : List UInt8))) then
              some (.inr (.inr false))
            else
              some (.inl (IntKind.i64.wrap (i + 1)))
        else
          ck (ixOk (order.getD i.toNat default) list.length) <|
          (impl_VisibleAt list ((list.getD (order.getD i.toNat default).toNat default).Faint)).bind fun y_29 =>
          ck (!(!(!(y_29.2 == 0))) || (laws_a2Has y_29.1 (order.getD i.toNat default)).isSome) <|
          ck (!(!((!(y_29.2 == 0)) || (!((laws_a2Has y_29.1 (order.getD i.toNat default)).getD default)))) || (impl_PositionText (list.getD (order.getD i.toNat default).toNat default)).isSome) <|
          if (((!(y_29.2 == 0)) || (!((laws_a2Has y_29.1 (order.getD i.toNat default)).getD default))) || (((impl_PositionText (list.getD (order.getD i.toNat default).toNat default)).getD default) == ([] : List UInt8))) then
            some (.inr (.inr false))
          else
            some (.inl (IntKind.i64.wrap (i + 1)))
    else
      some (.inr (.inl ()))

noncomputable def laws_FnCatalogues_l2 (list : List Star) (order : List Int) : Int → Option (Int ⊕ (Unit ⊕ Bool))
  | i =>
    if (decide (i < (order.length : Int))) then
      ck (ixOk i order.length) <|
      ck (!(!((decide ((order.getD i.toNat default) < 0)) || (decide ((list.length : Int) ≤ (order.getD i.toNat default))))) || cutOk 0 i order.length) <|
      ck (!(!((decide ((order.getD i.toNat default) < 0)) || (decide ((list.length : Int) ≤ (order.getD i.toNat default))))) || (laws_a2Has (cut order 0 i) (order.getD i.toNat default)).isSome) <|
      if (((decide ((order.getD i.toNat default) < 0)) || (decide ((list.length : Int) ≤ (order.getD i.toNat default)))) || ((laws_a2Has (cut order 0 i) (order.getD i.toNat default)).getD default)) then
        some (.inr (.inr false))
      else
        if (decide (0 < i)) then
          ck (ixOk (IntKind.i64.wrap (i - 1)) order.length) <|
          ck (ixOk (order.getD (IntKind.i64.wrap (i - 1)).toNat default) list.length) <|
          ck (ixOk (order.getD i.toNat default) list.length) <|
          if (decide ((IntKind.i64.wrap (((list.getD (order.getD (IntKind.i64.wrap (i - 1)).toNat default).toNat default).Faint) - ((list.getD (order.getD (IntKind.i64.wrap (i - 1)).toNat default).toNat default).Bright))) < (IntKind.i64.wrap (((list.getD (order.getD i.toNat default).toNat default).Faint) - ((list.getD (order.getD i.toNat default).toNat default).Bright))))) then
            some (.inr (.inr false))
          else
            (impl_VisibleAt list ((list.getD (order.getD i.toNat default).toNat default).Faint)).bind fun y_47 =>
            ck (!(!(!(y_47.2 == 0))) || (laws_a2Has y_47.1 (order.getD i.toNat default)).isSome) <|
            ck (!(!((!(y_47.2 == 0)) || (!((laws_a2Has y_47.1 (order.getD i.toNat default)).getD default)))) || (impl_PositionText (list.getD (order.getD i.toNat default).toNat default)).isSome) <|
            if (((!(y_47.2 == 0)) || (!((laws_a2Has y_47.1 (order.getD i.toNat default)).getD default))) || (((impl_PositionText (list.getD (order.getD i.toNat default).toNat default)).getD default) == ([] : List UInt8))) then
              some (.inr (.inr false))
            else
              some (.inl (IntKind.i64.wrap (i + 1)))
        else
          ck (ixOk (order.getD i.toNat default) list.length) <|
          (impl_VisibleAt list ((list.getD (order.getD i.toNat default).toNat default).Faint)).bind fun y_52 =>
          ck (!(!(!(y_52.2 == 0))) || (laws_a2Has y_52.1 (order.getD i.toNat default)).isSome) <|
          ck (!(!((!(y_52.2 == 0)) || (!((laws_a2Has y_52.1 (order.getD i.toNat default)).getD default)))) || (impl_PositionText (list.getD (order.getD i.toNat default).toNat default)).isSome) <|
          if (((!(y_52.2 == 0)) || (!((laws_a2Has y_52.1 (order.getD i.toNat default)).getD default))) || (((impl_PositionText (list.getD (order.getD i.toNat default).toNat default)).getD default) == ([] : List UInt8))) then
            some (.inr (.inr false))
          else
            some (.inl (IntKind.i64.wrap (i + 1)))
    else
      some (.inr (.inl ()))

/-- laws.FnCatalogues -/
noncomputable def laws_FnCatalogues (code : List UInt8) (more : List UInt8) : Option Bool :=
  (laws_a2Long code more).bind fun y_1 =>
  if y_1 then
    some true
  else
    (spec_A2Stars code).bind fun y_3 =>
    (spec_A2Star more).bind fun y_4 =>
    (impl_AddStar y_3 y_4).bind fun y_5 =>
    if (y_5.2 == 0) then
      (impl_StarNamed y_5.1 y_4.Name).bind fun y_7 =>
      (spec_ValidStars y_5.1).bind fun y_8 =>
      ck (!(!(!y_8)) || (impl_ValidStars y_5.1).isSome) <|
      ck (!(!((((((!y_8) || (!((impl_ValidStars y_5.1).getD default))) || (!((y_5.1.length : Int) == (IntKind.i64.wrap ((y_3.length : Int) + 1))))) || (!(y_7.2 == 0))) || (decide (y_7.1 < 0))) || (decide ((y_5.1.length : Int) ≤ y_7.1)))) || ixOk y_7.1 y_5.1.length) <|
      if (((((((!y_8) || (!((impl_ValidStars y_5.1).getD default))) || (!((y_5.1.length : Int) == (IntKind.i64.wrap ((y_3.length : Int) + 1))))) || (!(y_7.2 == 0))) || (decide (y_7.1 < 0))) || (decide ((y_5.1.length : Int) ≤ y_7.1))) || (!((((y_5.1.getD y_7.1.toNat default).Name) == y_4.Name) && ((((y_5.1.getD y_7.1.toNat default).Ascend) == y_4.Ascend) && ((((y_5.1.getD y_7.1.toNat default).Decl) == y_4.Decl) && ((((y_5.1.getD y_7.1.toNat default).Bright) == y_4.Bright) && (((y_5.1.getD y_7.1.toNat default).Faint) == y_4.Faint))))))) then
        some false
      else
        (impl_ByAmplitude y_3).bind fun y_12 =>
        if ((!(y_12.2 == 0)) || (!((y_12.1.length : Int) == (y_3.length : Int)))) then
          some false
        else
          (whileE (laws_FnCatalogues_l1 y_3 y_12.1) 0).bind fun y_33 =>
          match y_33 with
          | .inl y_33a =>
            some true
          | .inr y_33b =>
            some y_33b
    else
      if (!(y_5.2 == 4)) then
        some false
      else
        (impl_ByAmplitude y_3).bind fun y_35 =>
        if ((!(y_35.2 == 0)) || (!((y_35.1.length : Int) == (y_3.length : Int)))) then
          some false
        else
          (whileE (laws_FnCatalogues_l2 y_3 y_35.1) 0).bind fun y_56 =>
          match y_56 with
          | .inl y_56a =>
            some true
          | .inr y_56b =>
            some y_56b

end Go.Proofs.YtfmhpfmibopkeaaDoor
