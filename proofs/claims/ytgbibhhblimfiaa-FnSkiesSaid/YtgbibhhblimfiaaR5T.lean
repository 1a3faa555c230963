/- Typed forms of the functions that R5 reaches. No condition. -/
import Derived.Test.YtgbibhhblimfiaaEngTA
namespace Go.Proofs.Ytgbibhhblimfiaa
open Go Go.RowKit
set_option linter.unusedVariables false

structure Star where
  Name : List UInt8
  Ascend : Int
  Decl : Int
  Bright : Int
  Faint : Int
  deriving Inhabited, DecidableEq
def Star_av (x : Star) : AV := .agg ([.str x.Name, .int .i64 x.Ascend, .int .i64 x.Decl, .int .i64 x.Bright, .int .i64 x.Faint])

structure L00Src where
  code_ : List UInt8
  at_ : Int
  seed_ : Int
  deriving Inhabited, DecidableEq
def L00Src_av (x : L00Src) : AV := .agg ([.sl 1 (List.map byteAV x.code_), .int .i64 x.at_, .int .u64 x.seed_])

structure Box where
  FromAscend : Int
  ToAscend : Int
  FromDecl : Int
  ToDecl : Int
  deriving Inhabited, DecidableEq
def Box_av (x : Box) : AV := .agg ([.int .i64 x.FromAscend, .int .i64 x.ToAscend, .int .i64 x.FromDecl, .int .i64 x.ToDecl])

structure Point where
  Time : Int
  Mag : Int
  deriving Inhabited, DecidableEq
def Point_av (x : Point) : AV := .agg ([.int .i64 x.Time, .int .i64 x.Mag])

structure L25R where
  b_ : List UInt8
  at_ : Int
  ok_ : Bool
  deriving Inhabited, DecidableEq
def L25R_av (x : L25R) : AV := .agg ([.sl 1 (List.map byteAV x.b_), .int .i64 x.at_, .bool x.ok_])

structure Unpacker where
  rest_ : List UInt8
  bad_ : Bool
  deriving Inhabited, DecidableEq
def Unpacker_av (x : Unpacker) : AV := .agg ([.sl 1 (List.map byteAV x.rest_), .bool x.bad_])

attribute [go_sem] Star_av L00Src_av Box_av Point_av L25R_av Unpacker_av

/-- impl.in -/
noncomputable def impl_in (n : Int) (low : Int) (high : Int) : Option Bool :=
  some ((decide (low ≤ n)) && (decide (n ≤ high)))

/-- impl.abs -/
noncomputable def impl_abs (n : Int) : Option Int :=
  if (decide (n < 0)) then
    some (IntKind.i64.wrap (0 - n))
  else
    some n

/-- impl.AscensionApart -/
noncomputable def impl_AscensionApart (a : Int) (b : Int) : Option (Int × Int) :=
  (impl_in a 0 86399).bind fun y_1 =>
  ck (!(!(!y_1)) || (impl_in b 0 86399).isSome) <|
  if ((!y_1) || (!((impl_in b 0 86399).getD default))) then
    some (0, 2)
  else
    (impl_abs (IntKind.i64.wrap (a - b))).bind fun y_4 =>
    some ((if (IntKind.i64.wrap (86400 - y_4)) < y_4 then (IntKind.i64.wrap (86400 - y_4)) else y_4), 0)

/-- laws.a2Long -/
noncomputable def laws_a2Long (code : List UInt8) (more : List UInt8) : Option Bool :=
  some ((decide (3000 < (code.length : Int))) || (decide (3000 < (more.length : Int))))

/-- spec.l00From -/
noncomputable def spec_l00From (code : List UInt8) : Option L00Src :=
  some (L00Src.mk code 0 0)

/-- spec.l04Names -/
noncomputable def spec_l04Names  : Option (List (List UInt8)) :=
  some ([([98, 101, 116, 97, 45, 108, 121, 114] : List UInt8), ([100, 101, 108, 45, 99, 101, 112] : List UInt8), ([109, 105, 114, 97] : List UInt8), ([114, 45, 99, 114, 98] : List UInt8), ([114, 114, 45, 108, 121, 114] : List UInt8), ([115, 115, 45, 99, 121, 103] : List UInt8)] : List (List UInt8))

/-- (*spec.l00Src).next -/
noncomputable def spec_l00Src_next (s_ : L00Src) : Option (Int × L00Src) :=
  if (decide (s_.at_ < (s_.code_.length : Int))) then
    ck (ixOk s_.at_ s_.code_.length) <|
    if (decide ((IntKind.i64.wrap (s_.at_ + 1)) ≤ (s_.code_.length : Int))) then
      some (((s_.code_.getD s_.at_.toNat default).toNat : Int), (L00Src.mk s_.code_ (IntKind.i64.wrap (s_.at_ + 1)) (IntKind.u64.wrap ((IntKind.u64.wrap ((IntKind.u64.wrap (s_.seed_ * 6364136223846793005)) + (IntKind.u64.wrap ((s_.code_.getD s_.at_.toNat default).toNat : Int)))) + 1442695040888963407))))
    else
      ck (shOk 40) <|
      some ((IntKind.i64.wrap (IntKind.u64.wrap (BitVec.ofInt (IntKind.bits .u64) ((IntKind.u64.wrap ((IntKind.u64.wrap ((IntKind.u64.wrap (s_.seed_ * 6364136223846793005)) + (IntKind.u64.wrap ((s_.code_.getD s_.at_.toNat default).toNat : Int)))) + 1442695040888963407)).fdiv (2 ^ (min 40 64))) &&& BitVec.ofInt (IntKind.bits .u64) 255).toNat)), (L00Src.mk s_.code_ (IntKind.i64.wrap (s_.at_ + 1)) (IntKind.u64.wrap ((IntKind.u64.wrap ((IntKind.u64.wrap (s_.seed_ * 6364136223846793005)) + (IntKind.u64.wrap ((s_.code_.getD s_.at_.toNat default).toNat : Int)))) + 1442695040888963407))))
  else
    if (decide ((IntKind.i64.wrap (s_.at_ + 1)) ≤ (s_.code_.length : Int))) then
      some (0, (L00Src.mk s_.code_ (IntKind.i64.wrap (s_.at_ + 1)) (IntKind.u64.wrap ((IntKind.u64.wrap ((IntKind.u64.wrap (s_.seed_ * 6364136223846793005)) + (IntKind.u64.wrap 0))) + 1442695040888963407))))
    else
      ck (shOk 40) <|
      some ((IntKind.i64.wrap (IntKind.u64.wrap (BitVec.ofInt (IntKind.bits .u64) ((IntKind.u64.wrap ((IntKind.u64.wrap ((IntKind.u64.wrap (s_.seed_ * 6364136223846793005)) + (IntKind.u64.wrap 0))) + 1442695040888963407)).fdiv (2 ^ (min 40 64))) &&& BitVec.ofInt (IntKind.bits .u64) 255).toNat)), (L00Src.mk s_.code_ (IntKind.i64.wrap (s_.at_ + 1)) (IntKind.u64.wrap ((IntKind.u64.wrap ((IntKind.u64.wrap (s_.seed_ * 6364136223846793005)) + (IntKind.u64.wrap 0))) + 1442695040888963407))))

/-- (*spec.l00Src).pick -/
noncomputable def spec_l00Src_pick (s_ : L00Src) (n : Int) : Option (Int × L00Src) :=
  if (decide (n ≤ 1)) then
    some (0, s_)
  else
    (spec_l00Src_next s_).bind fun y_2 =>
    if (decide (200 < n)) then
      (spec_l00Src_next y_2.2).bind fun y_4 =>
      ck (nz n) <|
      some (((IntKind.i64.wrap ((IntKind.i64.wrap (y_2.1 * 256)) + y_4.1)).tmod n), y_4.2)
    else
      ck (nz n) <|
      some ((y_2.1.tmod n), y_2.2)

/-- (*spec.l00Src).one -/
noncomputable def spec_l00Src_one (s_ : L00Src) (n : Int) : Option (Bool × L00Src) :=
  (spec_l00Src_pick s_ n).bind fun y_1 =>
  some ((y_1.1 == 0), y_1.2)

/-- spec.l00Min -/
noncomputable def spec_l00Min (a : Int) (b : Int) : Option Int :=
  if (decide (a < b)) then
    some a
  else
    some b

/-- (*spec.l00Src).among -/
noncomputable def spec_l00Src_among (s_ : L00Src) (list : List Int) : Option (Int × L00Src) :=
  (spec_l00Src_pick s_ (list.length : Int)).bind fun y_1 =>
  ck (ixOk y_1.1 list.length) <|
  some ((list.getD y_1.1.toNat default), y_1.2)

/-- spec.l02Draw -/
noncomputable def spec_l02Draw (s_ : L00Src) : Option (Int × L00Src) :=
  (spec_l00Src_one s_ 8).bind fun y_1 =>
  if y_1.1 then
    (spec_l00Src_pick y_1.2 22001).bind fun y_3 =>
    some ((IntKind.i64.wrap (y_3.1 + (-2000))), y_3.2)
  else
    (spec_l00Src_pick y_1.2 60).bind fun y_4 =>
    some ((IntKind.i64.wrap (8000 + (IntKind.i64.wrap (50 * y_4.1)))), y_4.2)

/-- spec.l04New -/
noncomputable def spec_l04New (s_ : L00Src) (name : List UInt8) : Option (Star × L00Src) :=
  (spec_l00Src_pick s_ 86400).bind fun y_1 =>
  (spec_l00Src_one y_1.2 3).bind fun y_2 =>
  if y_2.1 then
    (spec_l00Src_among y_2.2 ([0, 10, 100, 86300, 86399] : List Int)).bind fun y_4 =>
    (spec_l00Src_pick y_4.2 648001).bind fun y_5 =>
    (spec_l00Src_one y_5.2 3).bind fun y_6 =>
    if y_6.1 then
      (spec_l00Src_pick y_6.2 9).bind fun y_8 =>
      (spec_l02Draw y_8.2).bind fun y_9 =>
      (spec_l00Src_pick y_9.2 40).bind fun y_10 =>
      (spec_l00Min 20000 (IntKind.i64.wrap (y_9.1 + (IntKind.i64.wrap (100 * y_10.1))))).bind fun y_11 =>
      some ((Star.mk name y_4.1 (IntKind.i64.wrap (3600 * (IntKind.i64.wrap (y_8.1 - 4)))) y_9.1 y_11), y_10.2)
    else
      (spec_l02Draw y_6.2).bind fun y_12 =>
      (spec_l00Src_pick y_12.2 40).bind fun y_13 =>
      (spec_l00Min 20000 (IntKind.i64.wrap (y_12.1 + (IntKind.i64.wrap (100 * y_13.1))))).bind fun y_14 =>
      some ((Star.mk name y_4.1 (IntKind.i64.wrap (y_5.1 - 324000)) y_12.1 y_14), y_13.2)
  else
    (spec_l00Src_pick y_2.2 648001).bind fun y_15 =>
    (spec_l00Src_one y_15.2 3).bind fun y_16 =>
    if y_16.1 then
      (spec_l00Src_pick y_16.2 9).bind fun y_18 =>
      (spec_l02Draw y_18.2).bind fun y_19 =>
      (spec_l00Src_pick y_19.2 40).bind fun y_20 =>
      (spec_l00Min 20000 (IntKind.i64.wrap (y_19.1 + (IntKind.i64.wrap (100 * y_20.1))))).bind fun y_21 =>
      some ((Star.mk name y_1.1 (IntKind.i64.wrap (3600 * (IntKind.i64.wrap (y_18.1 - 4)))) y_19.1 y_21), y_20.2)
    else
      (spec_l02Draw y_16.2).bind fun y_22 =>
      (spec_l00Src_pick y_22.2 40).bind fun y_23 =>
      (spec_l00Min 20000 (IntKind.i64.wrap (y_22.1 + (IntKind.i64.wrap (100 * y_23.1))))).bind fun y_24 =>
      some ((Star.mk name y_1.1 (IntKind.i64.wrap (y_15.1 - 324000)) y_22.1 y_24), y_23.2)

noncomputable def spec_l04Draw_l1 (names : List (List UInt8)) : (L00Src × (List Star) × Int) → Option ((L00Src × (List Star) × Int) ⊕ (L00Src × (List Star)))
  | (s_, out, k) =>
    if (decide (k < (names.length : Int))) then
      (spec_l00Src_one s_ 2).bind fun y_3 =>
      if y_3.1 then
        ck (ixOk k names.length) <|
        (spec_l04New y_3.2 (names.getD k.toNat default)).bind fun y_6 =>
        ck (appOk (out.length + ([y_6.1] : List Star).length) 48) <|
        some (.inl (y_6.2, (out ++ ([y_6.1] : List Star)), (IntKind.i64.wrap (k + 1))))
      else
        some (.inl (y_3.2, out, (IntKind.i64.wrap (k + 1))))
    else
      some (.inr (s_, out))

/-- spec.l04Draw -/
noncomputable def spec_l04Draw (s_ : L00Src) : Option ((List Star) × L00Src) :=
  (spec_l04Names).bind fun y_1 =>
  (whileE (spec_l04Draw_l1 y_1) (s_, ([] : List Star), 0)).bind fun y_8 =>
  some (y_8.2, y_8.1)

/-- spec.A2Stars -/
noncomputable def spec_A2Stars (code : List UInt8) : Option (List Star) :=
  (spec_l00From code).bind fun y_1 =>
  (spec_l04Draw y_1).bind fun y_2 =>
  some y_2.1

/-- (*spec.l00Src).text -/
noncomputable def spec_l00Src_text (s_ : L00Src) (list : List (List UInt8)) : Option ((List UInt8) × L00Src) :=
  (spec_l00Src_pick s_ (list.length : Int)).bind fun y_1 =>
  ck (ixOk y_1.1 list.length) <|
  some ((list.getD y_1.1.toNat default), y_1.2)

/-- spec.A2Star -/
noncomputable def spec_A2Star (code : List UInt8) : Option Star :=
  (spec_l00From code).bind fun y_1 =>
  (spec_l04Names).bind fun y_2 =>
  (spec_l00Src_text y_1 y_2).bind fun y_3 =>
  (spec_l04New y_3.2 y_3.1).bind fun y_4 =>
  some y_4.1

/-- laws.a2At -/
noncomputable def laws_a2At (code : List UInt8) (at_ : Int) (n : Int) : Option Int :=
  if ((decide ((code.length : Int) ≤ at_)) || (decide (n < 1))) then
    some 0
  else
    ck (ixOk at_ code.length) <|
    ck (nz n) <|
    some (((code.getD at_.toNat default).toNat : Int).tmod n)

/-- impl.floorDiv -/
noncomputable def impl_floorDiv (a : Int) (b : Int) : Option Int :=
  ck (nz b) <|
  if (decide ((a.tmod b) < 0)) then
    some (IntKind.i64.wrap ((IntKind.i64.wrap (a.tdiv b)) - 1))
  else
    some (IntKind.i64.wrap (a.tdiv b))

/-- impl.mod -/
noncomputable def impl_mod (a : Int) (b : Int) : Option Int :=
  (impl_floorDiv a b).bind fun y_1 =>
  some (IntKind.i64.wrap (a - (IntKind.i64.wrap (y_1 * b))))

noncomputable def impl_IsName_l1 (s_ : List UInt8) (t15 : Int) : Int → Option (Int ⊕ (Unit ⊕ Bool))
  | t16 =>
    if (decide (t16 < t15)) then
      ck (ixOk t16 s_.length) <|
      if ((!((decide (97 ≤ ((s_.getD t16.toNat 0).toNat : Int))) && (decide (((s_.getD t16.toNat 0).toNat : Int) ≤ 122)))) && ((t16 == 0) || (!(((decide (48 ≤ ((s_.getD t16.toNat 0).toNat : Int))) && (decide (((s_.getD t16.toNat 0).toNat : Int) ≤ 57))) || (((s_.getD t16.toNat 0).toNat : Int) == 45))))) then
        some (.inr (.inr false))
      else
        some (.inl (IntKind.i64.wrap (t16 + 1)))
    else
      some (.inr (.inl ()))

/-- impl.IsName -/
noncomputable def impl_IsName (s_ : List UInt8) : Option Bool :=
  if ((decide ((s_.length : Int) < 1)) || (decide (12 < (s_.length : Int)))) then
    some false
  else
    (whileE (impl_IsName_l1 s_ (s_.length : Int)) 0).bind fun y_5 =>
    match y_5 with
    | .inl y_5a =>
      some true
    | .inr y_5b =>
      some y_5b

/-- impl.ValidMag -/
noncomputable def impl_ValidMag (m : Int) : Option Bool :=
  (impl_in m (-2000) 20000).bind fun y_1 =>
  some y_1

/-- impl.isStar -/
noncomputable def impl_isStar (x : Star) : Option Bool :=
  (impl_in x.Ascend 0 86399).bind fun y_1 =>
  ck (!y_1 || (impl_in x.Decl (-324000) 324000).isSome) <|
  (impl_IsName x.Name).bind fun y_3 =>
  ck (!(y_3 && (y_1 && ((impl_in x.Decl (-324000) 324000).getD default))) || (impl_ValidMag x.Bright).isSome) <|
  ck (!((y_3 && (y_1 && ((impl_in x.Decl (-324000) 324000).getD default))) && ((impl_ValidMag x.Bright).getD default)) || (impl_ValidMag x.Faint).isSome) <|
  some ((((y_3 && (y_1 && ((impl_in x.Decl (-324000) 324000).getD default))) && ((impl_ValidMag x.Bright).getD default)) && ((impl_ValidMag x.Faint).getD default)) && (decide (x.Bright ≤ x.Faint)))

/-- impl.BoxAround -/
noncomputable def impl_BoxAround (x : Star) (width : Int) : Option (Box × Int) :=
  (impl_isStar x).bind fun y_1 =>
  ck (!(!(!y_1)) || (impl_in width 0 40000).isSome) <|
  if ((!y_1) || (!((impl_in width 0 40000).getD default))) then
    some ((Box.mk 0 0 0 0), 2)
  else
    (impl_mod (IntKind.i64.wrap (x.Ascend - width)) 86400).bind fun y_4 =>
    (impl_mod (IntKind.i64.wrap (x.Ascend + width)) 86400).bind fun y_5 =>
    some ((Box.mk y_4 y_5 (if (IntKind.i64.wrap (x.Decl - (IntKind.i64.wrap (15 * width)))) < (-324000) then (-324000) else (IntKind.i64.wrap (x.Decl - (IntKind.i64.wrap (15 * width))))) (if 324000 < (IntKind.i64.wrap (x.Decl + (IntKind.i64.wrap (15 * width)))) then 324000 else (IntKind.i64.wrap (x.Decl + (IntKind.i64.wrap (15 * width)))))), 0)

/-- impl.starName -/
noncomputable def impl_starName (x : Star) : Option (List UInt8) :=
  some x.Name

noncomputable def impl_rising_impl_Star__impl_isStar__impl_starName_l1 (list : List Star) (t15 : List Star) (t16 : Int) : Int → Option (Int ⊕ (Unit ⊕ Bool))
  | t17 =>
    if (decide (t17 < t16)) then
      ck (ixOk t17 t15.length) <|
      (impl_isStar (t15.getD t17.toNat default)).bind fun y_4 =>
      ck (!((!(!y_4)) && (decide (0 < t17))) || ixOk (IntKind.i64.wrap (t17 - 1)) list.length) <|
      ck (!((!(!y_4)) && (decide (0 < t17))) || (impl_starName (list.getD (IntKind.i64.wrap (t17 - 1)).toNat default)).isSome) <|
      ck (!((!(!y_4)) && (decide (0 < t17))) || (impl_starName (t15.getD t17.toNat default)).isSome) <|
      if ((!y_4) || ((decide (0 < t17)) && (!(Op.bytesLess ((impl_starName (list.getD (IntKind.i64.wrap (t17 - 1)).toNat default)).getD default) ((impl_starName (t15.getD t17.toNat default)).getD default))))) then
        some (.inr (.inr false))
      else
        some (.inl (IntKind.i64.wrap (t17 + 1)))
    else
      some (.inr (.inl ()))

/-- impl.rising[impl.Star] -/
noncomputable def impl_rising_impl_Star__impl_isStar__impl_starName (list : List Star) (most : Int) : Option Bool :=
  if (decide (most < (list.length : Int))) then
    some false
  else
    (whileE (impl_rising_impl_Star__impl_isStar__impl_starName_l1 list list (list.length : Int)) 0).bind fun y_9 =>
    match y_9 with
    | .inl y_9a =>
      some true
    | .inr y_9b =>
      some y_9b

/-- impl.ValidStars -/
noncomputable def impl_ValidStars (list : List Star) : Option Bool :=
  (impl_rising_impl_Star__impl_isStar__impl_starName list 60).bind fun y_1 =>
  some y_1

/-- impl.isBox -/
noncomputable def impl_isBox (b : Box) : Option Bool :=
  (impl_in b.FromAscend 0 86399).bind fun y_1 =>
  ck (!y_1 || (impl_in b.ToAscend 0 86399).isSome) <|
  some ((((y_1 && ((impl_in b.ToAscend 0 86399).getD default)) && (decide ((-324000) ≤ b.FromDecl))) && (decide (b.FromDecl ≤ b.ToDecl))) && (decide (b.ToDecl ≤ 324000)))

/-- (impl.Box).has -/
noncomputable def impl_Box_has (b : Box) (x : Star) : Option Bool :=
  (impl_in x.Ascend b.FromAscend b.ToAscend).bind fun y_1 =>
  if (decide (b.ToAscend < b.FromAscend)) then
    ck (!((decide (b.FromAscend ≤ x.Ascend)) || (decide (x.Ascend ≤ b.ToAscend))) || (impl_in x.Decl b.FromDecl b.ToDecl).isSome) <|
    some (((decide (b.FromAscend ≤ x.Ascend)) || (decide (x.Ascend ≤ b.ToAscend))) && ((impl_in x.Decl b.FromDecl b.ToDecl).getD default))
  else
    ck (!y_1 || (impl_in x.Decl b.FromDecl b.ToDecl).isSome) <|
    some (y_1 && ((impl_in x.Decl b.FromDecl b.ToDecl).getD default))

/-- impl.InBox$1 -/
noncomputable def impl_InBox_c1 (i : Int) (t1 : Box) (t2 : List Star) : Option Bool :=
  ck (ixOk i t2.length) <|
  (impl_Box_has t1 (t2.getD i.toNat default)).bind fun y_2 =>
  some y_2

noncomputable def impl_indicesWhere__impl_InBox_c1_l1 (c : Box) (c2 : List Star) (t8 : Int) : ((List Int) × Int) → Option (((List Int) × Int) ⊕ (List Int))
  | (out, t9) =>
    if (decide (t9 < t8)) then
      (impl_InBox_c1 t9 c c2).bind fun y_2 =>
      if y_2 then
        ck (appOk (out.length + ([t9] : List Int).length) 8) <|
        some (.inl ((out ++ ([t9] : List Int)), (IntKind.i64.wrap (t9 + 1))))
      else
        some (.inl (out, (IntKind.i64.wrap (t9 + 1))))
    else
      some (.inr out)

/-- impl.indicesWhere -/
noncomputable def impl_indicesWhere__impl_InBox_c1 (n : Int) (wanted_c0 : Box) (wanted_c1 : List Star) : Option (List Int) :=
  (whileE (impl_indicesWhere__impl_InBox_c1_l1 wanted_c0 wanted_c1 n) (([] : List Int), 0)).bind fun y_5 =>
  some y_5

/-- impl.InBox -/
noncomputable def impl_InBox (list : List Star) (b : Box) : Option ((List Int) × Int) :=
  (impl_ValidStars list).bind fun y_1 =>
  ck (!(!(!y_1)) || (impl_isBox b).isSome) <|
  if ((!y_1) || (!((impl_isBox b).getD default))) then
    some (([] : List Int), 1)
  else
    (impl_indicesWhere__impl_InBox_c1 (list.length : Int) b list).bind fun y_4 =>
    some (y_4, 0)

noncomputable def laws_a2Rises_l1 (list : List Int) (n : Int) : Int → Option (Int ⊕ (Unit ⊕ Bool))
  | i =>
    if (decide (i < (list.length : Int))) then
      ck (ixOk i list.length) <|
      ck (!((!((decide ((list.getD i.toNat default) < 0)) || (decide (n ≤ (list.getD i.toNat default))))) && (decide (0 < i))) || ixOk (IntKind.i64.wrap (i - 1)) list.length) <|
      if (((decide ((list.getD i.toNat default) < 0)) || (decide (n ≤ (list.getD i.toNat default)))) || ((decide (0 < i)) && (decide ((list.getD i.toNat default) ≤ (list.getD (IntKind.i64.wrap (i - 1)).toNat default))))) then
        some (.inr (.inr false))
      else
        some (.inl (IntKind.i64.wrap (i + 1)))
    else
      some (.inr (.inl ()))

/-- laws.a2Rises -/
noncomputable def laws_a2Rises (list : List Int) (n : Int) : Option Bool :=
  (whileE (laws_a2Rises_l1 list n) 0).bind fun y_5 =>
  match y_5 with
  | .inl y_5a =>
    some true
  | .inr y_5b =>
    some y_5b

noncomputable def laws_a2Has_l1 (list : List Int) (n : Int) : Int → Option (Int ⊕ (Unit ⊕ Bool))
  | i =>
    if (decide (i < (list.length : Int))) then
      ck (ixOk i list.length) <|
      if ((list.getD i.toNat default) == n) then
        some (.inr (.inr true))
      else
        some (.inl (IntKind.i64.wrap (i + 1)))
    else
      some (.inr (.inl ()))

/-- laws.a2Has -/
noncomputable def laws_a2Has (list : List Int) (n : Int) : Option Bool :=
  (whileE (laws_a2Has_l1 list n) 0).bind fun y_4 =>
  match y_4 with
  | .inl y_4a =>
    some false
  | .inr y_4b =>
    some y_4b

noncomputable def laws_FnSkies_l1 (list : List Star) (x : Star) (width : Int) (near : List Int) : Int → Option (Int ⊕ (Unit ⊕ Bool))
  | i =>
    if (decide (i < (list.length : Int))) then
      ck (ixOk i list.length) <|
      (impl_AscensionApart x.Ascend ((list.getD i.toNat default).Ascend)).bind fun y_13 =>
      (impl_AscensionApart ((list.getD i.toNat default).Ascend) x.Ascend).bind fun y_14 =>
      if (((((!(y_13.2 == 0)) || (!(y_14.2 == 0))) || (!(y_13.1 == y_14.1))) || (decide (y_13.1 < 0))) || (decide (43200 < y_13.1))) then
        some (.inr (.inr false))
      else
        (laws_a2Has near i).bind fun y_16 =>
        if (!((((decide (y_13.1 ≤ width)) && (decide ((IntKind.i64.wrap (((list.getD i.toNat default).Decl) - x.Decl)) ≤ (IntKind.i64.wrap (15 * width))))) && (decide ((IntKind.i64.wrap ((-15) * width)) ≤ (IntKind.i64.wrap (((list.getD i.toNat default).Decl) - x.Decl))))) == y_16)) then
          some (.inr (.inr false))
        else
          some (.inl (IntKind.i64.wrap (i + 1)))
    else
      some (.inr (.inl ()))

/-- laws.FnSkies -/
noncomputable def laws_FnSkies (code : List UInt8) (more : List UInt8) : Option Bool :=
  (laws_a2Long code more).bind fun y_1 =>
  if y_1 then
    some true
  else
    (spec_A2Stars code).bind fun y_3 =>
    (spec_A2Star more).bind fun y_4 =>
    (laws_a2At more 0 256).bind fun y_5 =>
    (impl_BoxAround y_4 (IntKind.i64.wrap (40 * y_5))).bind fun y_6 =>
    (impl_InBox y_3 y_6.1).bind fun y_7 =>
    (impl_InBox ([y_4] : List Star) y_6.1).bind fun y_8 =>
    ck (!(!((!(y_6.2 == 0)) || (!(y_7.2 == 0)))) || (laws_a2Rises y_7.1 (y_3.length : Int)).isSome) <|
    if (((((!(y_6.2 == 0)) || (!(y_7.2 == 0))) || (!((laws_a2Rises y_7.1 (y_3.length : Int)).getD default))) || (!(y_8.2 == 0))) || (!((y_8.1.length : Int) == 1))) then
      some false
    else
      (whileE (laws_FnSkies_l1 y_3 y_4 (IntKind.i64.wrap (40 * y_5)) y_7.1) 0).bind fun y_18 =>
      match y_18 with
      | .inl y_18a =>
        some true
      | .inr y_18b =>
        some y_18b

noncomputable def laws_toByteS_l1 (a : List UInt8) : ((List UInt8) × Int) → Option (((List UInt8) × Int) ⊕ (List UInt8))
  | (out, i) =>
    if (decide (i < (a.length : Int))) then
      ck (ixOk i a.length) <|
      ck (ixOk i out.length) <|
      some (.inl ((out.set i.toNat (a.getD i.toNat default)), (IntKind.i64.wrap (i + 1))))
    else
      some (.inr out)

/-- laws.toByteS -/
noncomputable def laws_toByteS (a : List UInt8) : Option (List UInt8) :=
  ck (mkOk (a.length : Int) 1) <|
  (whileE (laws_toByteS_l1 a) ((List.replicate (a.length : Int).toNat 0), 0)).bind fun y_5 =>
  some y_5

noncomputable def spec_l25Sum_l1 (b : List UInt8) : (Int × Int × Int) → Option ((Int × Int × Int) ⊕ (Int × Int))
  | (sum, all, i) =>
    if (decide (i < (b.length : Int))) then
      ck (ixOk i b.length) <|
      ck (nz 251) <|
      some (.inl (((IntKind.i64.wrap (sum + ((b.getD i.toNat default).toNat : Int))).tmod 251), ((IntKind.i64.wrap (all + ((IntKind.i64.wrap (sum + ((b.getD i.toNat default).toNat : Int))).tmod 251))).tmod 251), (IntKind.i64.wrap (i + 1))))
    else
      some (.inr (sum, all))

/-- spec.l25Sum -/
noncomputable def spec_l25Sum (b : List UInt8) : Option Int :=
  (whileE (spec_l25Sum_l1 b) (1, 0, 0)).bind fun y_4 =>
  some (IntKind.i64.wrap ((IntKind.i64.wrap (251 * y_4.2)) + y_4.1))

/-- spec.l25Open -/
noncomputable def spec_l25Open (b : List UInt8) (kind : Int) : Option Int :=
  ck (!(!((decide ((b.length : Int) < 3)) || (decide (8000 < (b.length : Int))))) || ixOk 0 b.length) <|
  if (((decide ((b.length : Int) < 3)) || (decide (8000 < (b.length : Int)))) || (!(((b.getD 0 default).toNat : Int) == kind))) then
    some 8
  else
    ck (ixOk (IntKind.i64.wrap ((b.length : Int) - 2)) b.length) <|
    ck (ixOk (IntKind.i64.wrap ((b.length : Int) - 1)) b.length) <|
    ck (cutOk 0 (IntKind.i64.wrap ((b.length : Int) - 2)) b.length) <|
    (spec_l25Sum (cut b 0 (IntKind.i64.wrap ((b.length : Int) - 2)))).bind fun y_6 =>
    if (!((IntKind.i64.wrap ((IntKind.i64.wrap (256 * ((b.getD (IntKind.i64.wrap ((b.length : Int) - 2)).toNat default).toNat : Int))) + ((b.getD (IntKind.i64.wrap ((b.length : Int) - 1)).toNat default).toNat : Int))) == y_6)) then
      some 9
    else
      some 0

noncomputable def spec_l25Read_l1 (b : List UInt8) : (Int × Int) → Option ((Int × Int) ⊕ (Unit ⊕ (Int × Int × Bool)))
  | (n, i) =>
    if ((decide (i < (b.length : Int))) && (decide (i < 9))) then
      ck (ixOk i b.length) <|
      ck (shOk (IntKind.u64.wrap (IntKind.i64.wrap (7 * i)))) <|
      if (decide (((b.getD i.toNat default).toNat : Int) < 128)) then
        if ((decide (0 < i)) && (((b.getD i.toNat default).toNat : Int) == 0)) then
          some (.inr (.inr (0, 0, false)))
        else
          some (.inr (.inr ((IntKind.i64.wrap (n + (IntKind.i64.wrap ((IntKind.i64.wrap (IntKind.u8.wrap (BitVec.ofInt (IntKind.bits .u8) ((b.getD i.toNat default).toNat : Int) &&& BitVec.ofInt (IntKind.bits .u8) 127).toNat)) * 2 ^ (min (IntKind.u64.wrap (IntKind.i64.wrap (7 * i))).toNat 64))))), (IntKind.i64.wrap (i + 1)), true)))
      else
        some (.inl ((IntKind.i64.wrap (n + (IntKind.i64.wrap ((IntKind.i64.wrap (IntKind.u8.wrap (BitVec.ofInt (IntKind.bits .u8) ((b.getD i.toNat default).toNat : Int) &&& BitVec.ofInt (IntKind.bits .u8) 127).toNat)) * 2 ^ (min (IntKind.u64.wrap (IntKind.i64.wrap (7 * i))).toNat 64))))), (IntKind.i64.wrap (i + 1))))
    else
      some (.inr (.inl ()))

/-- spec.l25Read -/
noncomputable def spec_l25Read (b : List UInt8) : Option (Int × Int × Bool) :=
  (whileE (spec_l25Read_l1 b) (0, 0)).bind fun y_6 =>
  match y_6 with
  | .inl y_6a =>
    some (0, 0, false)
  | .inr y_6b =>
    some (y_6b.1, y_6b.2.1, y_6b.2.2)

/-- (*spec.l25R).number -/
noncomputable def spec_l25R_number (r : L25R) (most : Int) : Option (Int × L25R) :=
  ck (cutOk r.at_ (r.b_.length : Int) r.b_.length) <|
  (spec_l25Read (cut r.b_ r.at_ (r.b_.length : Int))).bind fun y_2 =>
  if ((!y_2.2.2) || (decide (most < y_2.1))) then
    some (0, (L25R.mk r.b_ r.at_ false))
  else
    some (y_2.1, (L25R.mk r.b_ (IntKind.i64.wrap (r.at_ + y_2.2.1)) r.ok_))

/-- spec.l25Unfold -/
noncomputable def spec_l25Unfold (n : Int) : Option Int :=
  ck (nz 2) <|
  if ((n.tmod 2) == 1) then
    some (IntKind.i64.wrap ((IntKind.i64.wrap (0 - (IntKind.i64.wrap (n + 1)))).tdiv 2))
  else
    some (IntKind.i64.wrap (n.tdiv 2))

/-- spec.l00In -/
noncomputable def spec_l00In (n : Int) (low : Int) (high : Int) : Option Bool :=
  some ((decide (low ≤ n)) && (decide (n ≤ high)))

/-- spec.l06Time -/
noncomputable def spec_l06Time (n : Int) : Option Bool :=
  (spec_l00In n 0 10000000).bind fun y_1 =>
  some y_1

/-- spec.l02Mag -/
noncomputable def spec_l02Mag (m : Int) : Option Bool :=
  (spec_l00In m (-2000) 20000).bind fun y_1 =>
  some y_1

noncomputable def spec_l08Ok_l1 (curve : List Point) : Int → Option (Int ⊕ (Unit ⊕ Bool))
  | i =>
    if (decide (i < (curve.length : Int))) then
      ck (ixOk i curve.length) <|
      (spec_l06Time ((curve.getD i.toNat default).Time)).bind fun y_3 =>
      ck (!(!(!y_3)) || (spec_l02Mag ((curve.getD i.toNat default).Mag)).isSome) <|
      ck (!((!((!y_3) || (!((spec_l02Mag ((curve.getD i.toNat default).Mag)).getD default)))) && (decide (0 < i))) || ixOk (IntKind.i64.wrap (i - 1)) curve.length) <|
      if (((!y_3) || (!((spec_l02Mag ((curve.getD i.toNat default).Mag)).getD default))) || ((decide (0 < i)) && (decide (((curve.getD i.toNat default).Time) ≤ ((curve.getD (IntKind.i64.wrap (i - 1)).toNat default).Time))))) then
        some (.inr (.inr false))
      else
        some (.inl (IntKind.i64.wrap (i + 1)))
    else
      some (.inr (.inl ()))

/-- spec.l08Ok -/
noncomputable def spec_l08Ok (curve : List Point) : Option Bool :=
  (whileE (spec_l08Ok_l1 curve) 0).bind fun y_7 =>
  match y_7 with
  | .inl y_7a =>
    some (decide ((curve.length : Int) ≤ 100))
  | .inr y_7b =>
    some y_7b

noncomputable def spec_l25Number_l1  : (Int × (List UInt8)) → Option ((Int × (List UInt8)) ⊕ (Int × (List UInt8)))
  | (n, out) =>
    if (decide (128 ≤ n)) then
      ck (nz 128) <|
      ck (appOk (out.length + ([(toU8 (IntKind.u8.wrap (IntKind.i64.wrap ((n.tmod 128) + 128))))] : List UInt8).length) 1) <|
      some (.inl ((IntKind.i64.wrap (n.tdiv 128)), (out ++ ([(toU8 (IntKind.u8.wrap (IntKind.i64.wrap ((n.tmod 128) + 128))))] : List UInt8))))
    else
      some (.inr (n, out))

/-- spec.l25Number -/
noncomputable def spec_l25Number (n : Int) : Option (List UInt8) :=
  (whileE (spec_l25Number_l1) (n, ([] : List UInt8))).bind fun y_4 =>
  ck (appOk (y_4.2.length + ([(toU8 (IntKind.u8.wrap y_4.1))] : List UInt8).length) 1) <|
  some (y_4.2 ++ ([(toU8 (IntKind.u8.wrap y_4.1))] : List UInt8))

/-- spec.l25Fold -/
noncomputable def spec_l25Fold (n : Int) : Option Int :=
  if (decide (n < 0)) then
    some (IntKind.i64.wrap ((IntKind.i64.wrap ((-2) * n)) - 1))
  else
    some (IntKind.i64.wrap (2 * n))

/-- spec.l25Close -/
noncomputable def spec_l25Close (out : List UInt8) : Option (List UInt8) :=
  (spec_l25Sum out).bind fun y_1 =>
  ck (nz 256) <|
  ck (appOk (out.length + ([(toU8 (IntKind.u8.wrap (IntKind.i64.wrap (y_1.tdiv 256))))] : List UInt8).length) 1) <|
  ck (appOk ((out ++ ([(toU8 (IntKind.u8.wrap (IntKind.i64.wrap (y_1.tdiv 256))))] : List UInt8)).length + ([(toU8 (IntKind.u8.wrap (y_1.tmod 256)))] : List UInt8).length) 1) <|
  some ((out ++ ([(toU8 (IntKind.u8.wrap (IntKind.i64.wrap (y_1.tdiv 256))))] : List UInt8)) ++ ([(toU8 (IntKind.u8.wrap (y_1.tmod 256)))] : List UInt8))

noncomputable def spec_l25Curve_l1 (curve : List Point) : ((List UInt8) × Int × Int × Int) → Option (((List UInt8) × Int × Int × Int) ⊕ (List UInt8))
  | (out, time, mag, i) =>
    if (decide (i < (curve.length : Int))) then
      ck (ixOk i curve.length) <|
      (spec_l25Number (IntKind.i64.wrap (((curve.getD i.toNat default).Time) - time))).bind fun y_5 =>
      ck (appOk (out.length + y_5.length) 1) <|
      (spec_l25Fold (IntKind.i64.wrap (((curve.getD i.toNat default).Mag) - mag))).bind fun y_7 =>
      (spec_l25Number y_7).bind fun y_8 =>
      ck (appOk ((out ++ y_5).length + y_8.length) 1) <|
      some (.inl (((out ++ y_5) ++ y_8), (curve.getD i.toNat default).Time, (curve.getD i.toNat default).Mag, (IntKind.i64.wrap (i + 1))))
    else
      some (.inr out)

/-- spec.l25Curve -/
noncomputable def spec_l25Curve (curve : List Point) : Option (List UInt8) :=
  (spec_l25Number (curve.length : Int)).bind fun y_1 =>
  ck (appOk (([(67 : UInt8)] : List UInt8).length + y_1.length) 1) <|
  (whileE (spec_l25Curve_l1 curve) ((([(67 : UInt8)] : List UInt8) ++ y_1), 0, 0, 0)).bind fun y_10 =>
  (spec_l25Close y_10).bind fun y_11 =>
  some y_11

noncomputable def spec_UnpackCurve_l1 (b : List UInt8) : (L25R × (List Point) × Int × Int × Int) → Option ((L25R × (List Point) × Int × Int × Int) ⊕ (L25R × (List Point)))
  | (r, out, time, mag, n) =>
    if ((decide (0 < n)) && r.ok_) then
      (spec_l25R_number r 10000000).bind fun y_6 =>
      (spec_l25R_number y_6.2 100000).bind fun y_7 =>
      (spec_l25Unfold y_7.1).bind fun y_8 =>
      ck (appOk (out.length + ([(Point.mk (IntKind.i64.wrap (time + y_6.1)) (IntKind.i64.wrap (mag + y_8)))] : List Point).length) 16) <|
      some (.inl (y_7.2, (out ++ ([(Point.mk (IntKind.i64.wrap (time + y_6.1)) (IntKind.i64.wrap (mag + y_8)))] : List Point)), (IntKind.i64.wrap (time + y_6.1)), (IntKind.i64.wrap (mag + y_8)), (IntKind.i64.wrap (n - 1))))
    else
      some (.inr (r, out))

/-- spec.UnpackCurve -/
noncomputable def spec_UnpackCurve (b : List UInt8) : Option ((List Point) × Int) :=
  (spec_l25Open b 67).bind fun y_1 =>
  if (!(y_1 == 0)) then
    some (([] : List Point), y_1)
  else
    ck (cutOk 0 (IntKind.i64.wrap ((b.length : Int) - 2)) b.length) <|
    (spec_l25R_number (L25R.mk (cut b 0 (IntKind.i64.wrap ((b.length : Int) - 2))) 1 true) 100).bind fun y_4 =>
    (whileE (spec_UnpackCurve_l1 b) (y_4.2, ([] : List Point), 0, 0, y_4.1)).bind fun y_10 =>
    ck (!(!(!y_10.1.ok_)) || (spec_l08Ok y_10.2).isSome) <|
    ck (!(!((!y_10.1.ok_) || (!((spec_l08Ok y_10.2).getD default)))) || (spec_l25Curve y_10.2).isSome) <|
    if (((!y_10.1.ok_) || (!((spec_l08Ok y_10.2).getD default))) || (!(((spec_l25Curve y_10.2).getD default) == b))) then
      some (([] : List Point), 8)
    else
      some (y_10.2, 0)

noncomputable def impl_SumOfBytes_l1 (t7 : List UInt8) (t8 : Int) : (Int × Int × Int) → Option ((Int × Int × Int) ⊕ (Int × Int))
  | (s_, t, t9) =>
    if (decide (t9 < t8)) then
      ck (ixOk t9 t7.length) <|
      ck (nz 251) <|
      some (.inl (((IntKind.i64.wrap (s_ + ((t7.getD t9.toNat default).toNat : Int))).tmod 251), ((IntKind.i64.wrap (t + ((IntKind.i64.wrap (s_ + ((t7.getD t9.toNat default).toNat : Int))).tmod 251))).tmod 251), (IntKind.i64.wrap (t9 + 1))))
    else
      some (.inr (s_, t))

/-- impl.SumOfBytes -/
noncomputable def impl_SumOfBytes (b : List UInt8) : Option Int :=
  (whileE (impl_SumOfBytes_l1 b (b.length : Int)) (1, 0, 0)).bind fun y_4 =>
  some (IntKind.i64.wrap ((IntKind.i64.wrap (251 * y_4.2)) + y_4.1))

/-- impl.UnpackCurve$1 -/
noncomputable def impl_UnpackCurve_c1 (kind : UInt8) : Option Bool :=
  some ((kind.toNat : Int) == 67)

/-- impl.checkPacked -/
noncomputable def impl_checkPacked__impl_UnpackCurve_c1 (b : List UInt8) : Option Int :=
  ck (!(!((decide ((b.length : Int) < 3)) || (decide (8000 < (b.length : Int))))) || ixOk 0 b.length) <|
  ck (!(!((decide ((b.length : Int) < 3)) || (decide (8000 < (b.length : Int))))) || (impl_UnpackCurve_c1 (b.getD 0 default)).isSome) <|
  if (((decide ((b.length : Int) < 3)) || (decide (8000 < (b.length : Int)))) || (!((impl_UnpackCurve_c1 (b.getD 0 default)).getD default))) then
    some 8
  else
    ck (cutOk 0 (IntKind.i64.wrap ((b.length : Int) - 2)) b.length) <|
    (impl_SumOfBytes (cut b 0 (IntKind.i64.wrap ((b.length : Int) - 2)))).bind fun y_5 =>
    ck (ixOk (IntKind.i64.wrap ((b.length : Int) - 2)) b.length) <|
    ck (ixOk (IntKind.i64.wrap ((IntKind.i64.wrap ((b.length : Int) - 2)) + 1)) b.length) <|
    if (!(y_5 == (IntKind.i64.wrap ((IntKind.i64.wrap (((b.getD (IntKind.i64.wrap ((b.length : Int) - 2)).toNat default).toNat : Int) * 256)) + ((b.getD (IntKind.i64.wrap ((IntKind.i64.wrap ((b.length : Int) - 2)) + 1)).toNat default).toNat : Int))))) then
      some 9
    else
      some 0

noncomputable def impl_ReadNumber_l1 (b : List UInt8) : (Int × Int) → Option ((Int × Int) ⊕ (Unit ⊕ (Int × Int × Bool)))
  | (n, i) =>
    if ((decide (i < (b.length : Int))) && (decide (i < 9))) then
      ck (ixOk i b.length) <|
      ck (shOk (IntKind.i64.wrap (7 * i))) <|
      if (decide (((b.getD i.toNat default).toNat : Int) < 128)) then
        if ((((b.getD i.toNat default).toNat : Int) == 0) && (decide (0 < i))) then
          some (.inr (.inr (0, 0, false)))
        else
          some (.inr (.inr ((IntKind.i64.wrap (BitVec.ofInt (IntKind.bits .i64) n ||| BitVec.ofInt (IntKind.bits .i64) (IntKind.i64.wrap ((IntKind.i64.wrap (IntKind.u8.wrap (BitVec.ofInt (IntKind.bits .u8) ((b.getD i.toNat default).toNat : Int) &&& BitVec.ofInt (IntKind.bits .u8) 127).toNat)) * 2 ^ (min (IntKind.i64.wrap (7 * i)).toNat 64)))).toNat), (IntKind.i64.wrap (i + 1)), true)))
      else
        some (.inl ((IntKind.i64.wrap (BitVec.ofInt (IntKind.bits .i64) n ||| BitVec.ofInt (IntKind.bits .i64) (IntKind.i64.wrap ((IntKind.i64.wrap (IntKind.u8.wrap (BitVec.ofInt (IntKind.bits .u8) ((b.getD i.toNat default).toNat : Int) &&& BitVec.ofInt (IntKind.bits .u8) 127).toNat)) * 2 ^ (min (IntKind.i64.wrap (7 * i)).toNat 64)))).toNat), (IntKind.i64.wrap (i + 1))))
    else
      some (.inr (.inl ()))

/-- impl.ReadNumber -/
noncomputable def impl_ReadNumber (b : List UInt8) : Option (Int × Int × Bool) :=
  (whileE (impl_ReadNumber_l1 b) (0, 0)).bind fun y_6 =>
  match y_6 with
  | .inl y_6a =>
    some (0, 0, false)
  | .inr y_6b =>
    some (y_6b.1, y_6b.2.1, y_6b.2.2)

/-- (*impl.unpacker).number -/
noncomputable def impl_unpacker_number (u : Unpacker) (most : Int) : Option (Int × Unpacker) :=
  (impl_ReadNumber u.rest_).bind fun y_1 =>
  if ((u.bad_ || (!y_1.2.2)) || (decide (most < y_1.1))) then
    some (0, (Unpacker.mk u.rest_ true))
  else
    ck (cutOk y_1.2.1 (u.rest_.length : Int) u.rest_.length) <|
    some (y_1.1, (Unpacker.mk (cut u.rest_ y_1.2.1 (u.rest_.length : Int)) u.bad_))

/-- impl.unfold -/
noncomputable def impl_unfold (n : Int) : Option Int :=
  ck (nz 2) <|
  if ((n.tmod 2) == 1) then
    some (IntKind.i64.wrap ((IntKind.i64.wrap (0 - (IntKind.i64.wrap (n + 1)))).tdiv 2))
  else
    some (IntKind.i64.wrap (n.tdiv 2))

noncomputable def impl_appendNumber_l1  : ((List UInt8) × Int) → Option (((List UInt8) × Int) ⊕ ((List UInt8) × Int))
  | (b, n) =>
    if (decide (128 ≤ n)) then
      ck (nz 128) <|
      ck (appOk (b.length + ([(toU8 (IntKind.u8.wrap (IntKind.i64.wrap ((n.tmod 128) + 128))))] : List UInt8).length) 1) <|
      some (.inl ((b ++ ([(toU8 (IntKind.u8.wrap (IntKind.i64.wrap ((n.tmod 128) + 128))))] : List UInt8)), (IntKind.i64.wrap (n.tdiv 128))))
    else
      some (.inr (b, n))

/-- impl.appendNumber -/
noncomputable def impl_appendNumber (b : List UInt8) (n : Int) : Option (List UInt8) :=
  (whileE (impl_appendNumber_l1) (b, n)).bind fun y_4 =>
  ck (appOk (y_4.1.length + ([(toU8 (IntKind.u8.wrap y_4.2))] : List UInt8).length) 1) <|
  some (y_4.1 ++ ([(toU8 (IntKind.u8.wrap y_4.2))] : List UInt8))

/-- impl.fold -/
noncomputable def impl_fold (n : Int) : Option Int :=
  if (decide (n < 0)) then
    some (IntKind.i64.wrap ((IntKind.i64.wrap ((-2) * n)) - 1))
  else
    some (IntKind.i64.wrap (2 * n))

/-- impl.ValidTime -/
noncomputable def impl_ValidTime (t : Int) : Option Bool :=
  (impl_in t 0 10000000).bind fun y_1 =>
  some y_1

noncomputable def impl_ValidCurve_l1 (curve : List Point) (t8 : List Point) (t9 : Int) : Int → Option (Int ⊕ (Unit ⊕ Bool))
  | t10 =>
    if (decide (t10 < t9)) then
      ck (ixOk t10 t8.length) <|
      (impl_ValidTime ((t8.getD t10.toNat default).Time)).bind fun y_4 =>
      ck (!(!(!y_4)) || (impl_ValidMag ((t8.getD t10.toNat default).Mag)).isSome) <|
      ck (!((!((!y_4) || (!((impl_ValidMag ((t8.getD t10.toNat default).Mag)).getD default)))) && (decide (0 < t10))) || ixOk (IntKind.i64.wrap (t10 - 1)) curve.length) <|
      if (((!y_4) || (!((impl_ValidMag ((t8.getD t10.toNat default).Mag)).getD default))) || ((decide (0 < t10)) && (decide (((t8.getD t10.toNat default).Time) ≤ ((curve.getD (IntKind.i64.wrap (t10 - 1)).toNat default).Time))))) then
        some (.inr (.inr false))
      else
        some (.inl (IntKind.i64.wrap (t10 + 1)))
    else
      some (.inr (.inl ()))

/-- impl.ValidCurve -/
noncomputable def impl_ValidCurve (curve : List Point) : Option Bool :=
  if (decide (100 < (curve.length : Int))) then
    some false
  else
    (whileE (impl_ValidCurve_l1 curve curve (curve.length : Int)) 0).bind fun y_8 =>
    match y_8 with
    | .inl y_8a =>
      some true
    | .inr y_8b =>
      some y_8b

/-- impl.count[impl.Point] -/
noncomputable def impl_count_impl_Point (list : List Point) : Option Int :=
  some (list.length : Int)

/-- impl.sealed -/
noncomputable def impl_sealed (b : List UInt8) : Option (List UInt8) :=
  (impl_SumOfBytes b).bind fun y_1 =>
  ck (nz 256) <|
  ck (appOk (b.length + ([(toU8 (IntKind.u8.wrap (IntKind.i64.wrap (y_1.tdiv 256)))), (toU8 (IntKind.u8.wrap (y_1.tmod 256)))] : List UInt8).length) 1) <|
  some (b ++ ([(toU8 (IntKind.u8.wrap (IntKind.i64.wrap (y_1.tdiv 256)))), (toU8 (IntKind.u8.wrap (y_1.tmod 256)))] : List UInt8))

noncomputable def impl_PackCurve_l1 (t16 : List Point) (t17 : Int) : ((List UInt8) × Int × Int × Int) → Option (((List UInt8) × Int × Int × Int) ⊕ (List UInt8))
  | (b, time, mag, t18) =>
    if (decide (t18 < t17)) then
      ck (ixOk t18 t16.length) <|
      (impl_appendNumber b (IntKind.i64.wrap (((t16.getD t18.toNat default).Time) - time))).bind fun y_7 =>
      (impl_fold (IntKind.i64.wrap (((t16.getD t18.toNat default).Mag) - mag))).bind fun y_8 =>
      (impl_appendNumber y_7 y_8).bind fun y_9 =>
      some (.inl (y_9, (t16.getD t18.toNat default).Time, (t16.getD t18.toNat default).Mag, (IntKind.i64.wrap (t18 + 1))))
    else
      some (.inr b)

/-- impl.PackCurve -/
noncomputable def impl_PackCurve (curve : List Point) : Option ((List UInt8) × Int) :=
  (impl_ValidCurve curve).bind fun y_1 =>
  if (!y_1) then
    some (([] : List UInt8), 1)
  else
    (impl_count_impl_Point curve).bind fun y_3 =>
    (impl_appendNumber ([(67 : UInt8)] : List UInt8) y_3).bind fun y_4 =>
    (whileE (impl_PackCurve_l1 curve (curve.length : Int)) (y_4, 0, 0, 0)).bind fun y_10 =>
    (impl_sealed y_10).bind fun y_11 =>
    some (y_11, 0)

/-- bytes.Equal -/
noncomputable def bytes_Equal (a : List UInt8) (b : List UInt8) : Option Bool :=
  some (a == b)

noncomputable def impl_UnpackCurve_l1 (b : List UInt8) (t25 : Int) : (Unpacker × (List Point) × Int × Int × Int) → Option ((Unpacker × (List Point) × Int × Int × Int) ⊕ (Unpacker × (List Point)))
  | (u, curve, time, mag, t26) =>
    if (decide (t26 < t25)) then
      (impl_unpacker_number u 10000000).bind fun y_6 =>
      (impl_unpacker_number y_6.2 44000).bind fun y_7 =>
      (impl_unfold y_7.1).bind fun y_8 =>
      ck (appOk (curve.length + ([(Point.mk (IntKind.i64.wrap (time + y_6.1)) (IntKind.i64.wrap (mag + y_8)))] : List Point).length) 16) <|
      some (.inl (y_7.2, (curve ++ ([(Point.mk (IntKind.i64.wrap (time + y_6.1)) (IntKind.i64.wrap (mag + y_8)))] : List Point)), (IntKind.i64.wrap (time + y_6.1)), (IntKind.i64.wrap (mag + y_8)), (IntKind.i64.wrap (t26 + 1))))
    else
      some (.inr (u, curve))

/-- impl.UnpackCurve -/
noncomputable def impl_UnpackCurve (b : List UInt8) : Option ((List Point) × Int) :=
  (impl_checkPacked__impl_UnpackCurve_c1 b).bind fun y_1 =>
  if (!(y_1 == 0)) then
    some (([] : List Point), y_1)
  else
    ck (cutOk 1 (IntKind.i64.wrap ((b.length : Int) - 2)) b.length) <|
    (impl_unpacker_number (Unpacker.mk (cut b 1 (IntKind.i64.wrap ((b.length : Int) - 2))) false) 100).bind fun y_4 =>
    (whileE (impl_UnpackCurve_l1 b y_4.1) (y_4.2, ([] : List Point), 0, 0, 0)).bind fun y_10 =>
    (impl_PackCurve y_10.2).bind fun y_11 =>
    ck (!(!(y_10.1.bad_ || (!(y_11.2 == 0)))) || (bytes_Equal y_11.1 b).isSome) <|
    if ((y_10.1.bad_ || (!(y_11.2 == 0))) || (!((bytes_Equal y_11.1 b).getD default))) then
      some (([] : List Point), 8)
    else
      some (y_10.2, 0)

/-- laws.eqPoint -/
noncomputable def laws_eqPoint (a : Point) (b : Point) : Option Bool :=
  if (!(a.Time == b.Time)) then
    some false
  else
    if (!(a.Mag == b.Mag)) then
      some false
    else
      some true

noncomputable def laws_eqPointS_l1 (a : List Point) (b : List Point) : Int → Option (Int ⊕ (Unit ⊕ Bool))
  | i =>
    if (decide (i < (a.length : Int))) then
      ck (ixOk i a.length) <|
      ck (ixOk i b.length) <|
      (laws_eqPoint (a.getD i.toNat default) (b.getD i.toNat default)).bind fun y_5 =>
      if (!y_5) then
        some (.inr (.inr false))
      else
        some (.inl (IntKind.i64.wrap (i + 1)))
    else
      some (.inr (.inl ()))

/-- laws.eqPointS -/
noncomputable def laws_eqPointS (a : List Point) (b : List Point) : Option Bool :=
  if (!((a.length : Int) == (b.length : Int))) then
    some false
  else
    (whileE (laws_eqPointS_l1 a b) 0).bind fun y_7 =>
    match y_7 with
    | .inl y_7a =>
      some true
    | .inr y_7b =>
      some y_7b

noncomputable def laws_eqByteS_l1 (a : List UInt8) (b : List UInt8) : Int → Option (Int ⊕ (Unit ⊕ Bool))
  | i =>
    if (decide (i < (a.length : Int))) then
      ck (ixOk i a.length) <|
      ck (ixOk i b.length) <|
      if (!(((a.getD i.toNat default).toNat : Int) == ((b.getD i.toNat default).toNat : Int))) then
        some (.inr (.inr false))
      else
        some (.inl (IntKind.i64.wrap (i + 1)))
    else
      some (.inr (.inl ()))

/-- laws.eqByteS -/
noncomputable def laws_eqByteS (a : List UInt8) (b : List UInt8) : Option Bool :=
  if (!((a.length : Int) == (b.length : Int))) then
    some false
  else
    (whileE (laws_eqByteS_l1 a b) 0).bind fun y_6 =>
    match y_6 with
    | .inl y_6a =>
      some true
    | .inr y_6b =>
      some y_6b

noncomputable def laws_markByteS_l1  : ((List UInt8) × Int × Int) → Option (((List UInt8) × Int × Int) ⊕ ((List UInt8) × Int))
  | (a, k, i) =>
    if (decide (i < (a.length : Int))) then
      ck (ixOk i a.length) <|
      some (.inl ((a.set i.toNat (toU8 (IntKind.u8.wrap k))), (IntKind.i64.wrap (k + 1)), (IntKind.i64.wrap (i + 1))))
    else
      some (.inr (a, k))

/-- laws.markByteS -/
noncomputable def laws_markByteS (a : List UInt8) (k : Int) : Option (Int × (List UInt8)) :=
  (whileE (laws_markByteS_l1) (a, k, 0)).bind fun y_3 =>
  ck (y_3.1.length == a.length) <|
  some (y_3.2, y_3.1)

noncomputable def laws_markPointS_l1  : ((List Point) × Int × Int) → Option (((List Point) × Int × Int) ⊕ ((List Point) × Int))
  | (a, k, i) =>
    if (decide (i < (a.length : Int))) then
      ck (ixOk i a.length) <|
      some (.inl ((a.set i.toNat (Point.mk k (IntKind.i64.wrap (k + 1)))), (IntKind.i64.wrap ((IntKind.i64.wrap (k + 1)) + 1)), (IntKind.i64.wrap (i + 1))))
    else
      some (.inr (a, k))

/-- laws.markPointS -/
noncomputable def laws_markPointS (a : List Point) (k : Int) : Option (Int × (List Point)) :=
  (whileE (laws_markPointS_l1) (a, k, 0)).bind fun y_3 =>
  ck (y_3.1.length == a.length) <|
  some (y_3.2, y_3.1)

noncomputable def laws_heldPointS_l1 (a : List Point) : (Int × Int) → Option ((Int × Int) ⊕ (Int ⊕ Int))
  | (k, i) =>
    if (decide (i < (a.length : Int))) then
      ck (ixOk i a.length) <|
      if (!(((a.getD i.toNat default).Time) == k)) then
        some (.inr (.inr (-1)))
      else
        if (!(((a.getD i.toNat default).Mag) == (IntKind.i64.wrap (k + 1)))) then
          some (.inr (.inr (-1)))
        else
          some (.inl ((IntKind.i64.wrap ((IntKind.i64.wrap (k + 1)) + 1)), (IntKind.i64.wrap (i + 1))))
    else
      some (.inr (.inl k))

/-- laws.heldPointS -/
noncomputable def laws_heldPointS (a : List Point) (k : Int) : Option Int :=
  (whileE (laws_heldPointS_l1 a) (k, 0)).bind fun y_5 =>
  match y_5 with
  | .inl y_5a =>
    some y_5a
  | .inr y_5b =>
    some y_5b

/-- laws.FnExactUnpackCurve -/
noncomputable def laws_FnExactUnpackCurve (aB : List UInt8) : Option Bool :=
  if (decide (1048576 < (aB.length : Int))) then
    some true
  else
    (laws_toByteS aB).bind fun y_2 =>
    (spec_UnpackCurve y_2).bind fun y_3 =>
    (impl_UnpackCurve y_2).bind fun y_4 =>
    (laws_eqPointS y_4.1 y_3.1).bind fun y_5 =>
    if ((!y_5) || (!(y_4.2 == y_3.2))) then
      some false
    else
      (laws_eqByteS y_2 y_2).bind fun y_7 =>
      if (!y_7) then
        some false
      else
        (laws_markByteS y_2 1).bind fun y_9 =>
        if (((decide (y_9.1 < 0)) || (!y_5)) || (!(y_4.2 == y_3.2))) then
          some false
        else
          (laws_markPointS y_4.1 1).bind fun y_12 =>
          (laws_heldPointS y_12.2 1).bind fun y_13 =>
          if (decide (y_13 < 0)) then
            some false
          else
            if (!(y_13 == y_12.1)) then
              some false
            else
              some true

end Go.Proofs.Ytgbibhhblimfiaa
