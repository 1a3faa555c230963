/- Typed forms of the functions that VO reaches. No condition. -/
import Derived.Test.YtdcmnpiafeigaaaGreatDoorEngSH
namespace Go.Proofs.YtdcmnpiafeigaaaGreatDoor
open Go Go.RowKit
set_option linter.unusedVariables false

structure Volume where
  Name : List UInt8
  From : Int
  To : Int
  Count : Int
  Copies : Int
  deriving Inhabited, DecidableEq
def Volume_av (x : Volume) : AV := .agg ([.str x.Name, .int .i64 x.From, .int .i64 x.To, .int .i64 x.Count, .int .i64 x.Copies])

structure L00Src where
  code_ : List UInt8
  at_ : Int
  seed_ : Int
  deriving Inhabited, DecidableEq
def L00Src_av (x : L00Src) : AV := .agg ([.sl 1 (List.map byteAV x.code_), .int .i64 x.at_, .int .u64 x.seed_])

structure Estimate where
  Time : Int
  Star : List UInt8
  Observer : List UInt8
  Mag : Int
  Fainter : Bool
  deriving Inhabited, DecidableEq
def Estimate_av (x : Estimate) : AV := .agg ([.int .i64 x.Time, .str x.Star, .str x.Observer, .int .i64 x.Mag, .bool x.Fainter])

attribute [go_sem] Volume_av L00Src_av Estimate_av

/-- laws.f6big -/
noncomputable def laws_f6big (code : List UInt8) : Option Bool :=
  some (decide (4096 < (code.length : Int)))

/-- spec.l00From -/
noncomputable def spec_l00From (code : List UInt8) : Option L00Src :=
  some (L00Src.mk code 0 0)

/-- (*spec.l00Src).next -/
noncomputable def spec_l00Src_next (s_ : L00Src) : Option (Int × L00Src) :=
  if (decide (s_.at_ < (s_.code_.length : Int))) then
    ck (ixOk s_.at_ s_.code_.length) <|
    if (decide ((IntKind.i64.wrap (s_.at_ + 1)) ≤ (s_.code_.length : Int))) then
      some (((s_.code_.getD s_.at_.toNat default).toNat : Int), (L00Src.mk s_.code_ (IntKind.i64.wrap (s_.at_ + 1)) (IntKind.u64.wrap ((IntKind.u64.wrap ((IntKind.u64.wrap (s_.seed_ * 6364136223846793005)) + (IntKind.u64.wrap ((s_.code_.getD s_.at_.toNat default).toNat : Int)))) + 1442695040888963407))))
    else
      ck (shOk 40) <|
      some ((IntKind.i64.wrap (IntKind.u64.wrap (BitVec.ofInt (IntKind.bits .u64) ((IntKind.u64.wrap ((IntKind.u64.wrap ((IntKind.u64.wrap (s_.seed_ * 6364136223846793005)) + (IntKind.u64.wrap ((s_.code_.getD s_.at_.toNat default).toNat : Int)))) + 1442695040888963407)).fdiv (2 ^ (min 40 64))) &&& BitVec.ofInt (IntKind.bits .u64) 255).toNat)), (L00Src.mk s_.code_ (IntKind.i64.wrap (s_.at_ + 1)) (IntKind.u64.wrap ((IntKind.u64.wrap ((IntKind.u64.wrap (s_.seed_ * 6364136223846793005)) + (IntKind.u64.wrap ((s_.code_.getD s_.at_.toNat default).toNat : Int)))) + 1442695040888963407))))
  else
    if (decide ((IntKind.i64.wrap (s_.at_ + 1)) ≤ (s_.code_.length : Int))) then
      some (0, (L00Src.mk s_.code_ (IntKind.i64.wrap (s_.at_ + 1)) (IntKind.u64.wrap ((IntKind.u64.wrap ((IntKind.u64.wrap (s_.seed_ * 6364136223846793005)) + (IntKind.u64.wrap 0))) + 1442695040888963407))))
    else
      ck (shOk 40) <|
      some ((IntKind.i64.wrap (IntKind.u64.wrap (BitVec.ofInt (IntKind.bits .u64) ((IntKind.u64.wrap ((IntKind.u64.wrap ((IntKind.u64.wrap (s_.seed_ * 6364136223846793005)) + (IntKind.u64.wrap 0))) + 1442695040888963407)).fdiv (2 ^ (min 40 64))) &&& BitVec.ofInt (IntKind.bits .u64) 255).toNat)), (L00Src.mk s_.code_ (IntKind.i64.wrap (s_.at_ + 1)) (IntKind.u64.wrap ((IntKind.u64.wrap ((IntKind.u64.wrap (s_.seed_ * 6364136223846793005)) + (IntKind.u64.wrap 0))) + 1442695040888963407))))

/-- (*spec.l00Src).pick -/
noncomputable def spec_l00Src_pick (s_ : L00Src) (n : Int) : Option (Int × L00Src) :=
  if (decide (n ≤ 1)) then
    some (0, s_)
  else
    (spec_l00Src_next s_).bind fun y_2 =>
    if (decide (200 < n)) then
      (spec_l00Src_next y_2.2).bind fun y_4 =>
      ck (nz n) <|
      some (((IntKind.i64.wrap ((IntKind.i64.wrap (y_2.1 * 256)) + y_4.1)).tmod n), y_4.2)
    else
      ck (nz n) <|
      some ((y_2.1.tmod n), y_2.2)

/-- (*spec.l00Src).one -/
noncomputable def spec_l00Src_one (s_ : L00Src) (n : Int) : Option (Bool × L00Src) :=
  (spec_l00Src_pick s_ n).bind fun y_1 =>
  some ((y_1.1 == 0), y_1.2)

/-- spec.l23New -/
noncomputable def spec_l23New (s_ : L00Src) (name : List UInt8) : Option (Volume × L00Src) :=
  (spec_l00Src_pick s_ 60).bind fun y_1 =>
  (spec_l00Src_pick y_1.2 30).bind fun y_2 =>
  (spec_l00Src_pick y_2.2 3).bind fun y_3 =>
  (spec_l00Src_pick y_3.2 200).bind fun y_4 =>
  (spec_l00Src_pick y_4.2 4).bind fun y_5 =>
  some ((Volume.mk name (IntKind.i64.wrap (10 * y_1.1)) (IntKind.i64.wrap ((IntKind.i64.wrap ((IntKind.i64.wrap (10 * y_1.1)) + (IntKind.i64.wrap (10 * y_2.1)))) + y_3.1)) (IntKind.i64.wrap (1 + y_4.1)) y_5.1), y_5.2)

/-- (*spec.l00Src).among -/
noncomputable def spec_l00Src_among (s_ : L00Src) (list : List Int) : Option (Int × L00Src) :=
  (spec_l00Src_pick s_ (list.length : Int)).bind fun y_1 =>
  ck (ixOk y_1.1 list.length) <|
  some ((list.getD y_1.1.toNat default), y_1.2)

/-- (*spec.l00Src).text -/
noncomputable def spec_l00Src_text (s_ : L00Src) (list : List (List UInt8)) : Option ((List UInt8) × L00Src) :=
  (spec_l00Src_pick s_ (list.length : Int)).bind fun y_1 =>
  ck (ixOk y_1.1 list.length) <|
  some ((list.getD y_1.1.toNat default), y_1.2)

/-- spec.l23Spoil -/
noncomputable def spec_l23Spoil (s_ : L00Src) (x : Volume) : Option (L00Src × Volume) :=
  (spec_l00Src_pick s_ 5).bind fun y_1 =>
  if (y_1.1 == 0) then
    (spec_l00Src_text y_1.2 ([([] : List UInt8), ([65] : List UInt8), ([122, 122] : List UInt8)] : List (List UInt8))).bind fun y_3 =>
    some (y_3.2, (Volume.mk y_3.1 x.From x.To x.Count x.Copies))
  else
    if (y_1.1 == 1) then
      (spec_l00Src_among y_1.2 ([(-1), 0, x.To, (IntKind.i64.wrap (x.To + 1))] : List Int)).bind fun y_5 =>
      some (y_5.2, (Volume.mk x.Name y_5.1 x.To x.Count x.Copies))
    else
      if (y_1.1 == 2) then
        (spec_l00Src_among y_1.2 ([(-1), 10000000, 10000001] : List Int)).bind fun y_7 =>
        some (y_7.2, (Volume.mk x.Name x.From y_7.1 x.Count x.Copies))
      else
        if (y_1.1 == 3) then
          (spec_l00Src_among y_1.2 ([0, 1, 1000000, 1000001, (-9223372036854775808)] : List Int)).bind fun y_9 =>
          some (y_9.2, (Volume.mk x.Name x.From x.To y_9.1 x.Copies))
        else
          if (y_1.1 == 4) then
            (spec_l00Src_among y_1.2 ([(-1), 0, 5, 6] : List Int)).bind fun y_11 =>
            some (y_11.2, (Volume.mk x.Name x.From x.To x.Count y_11.1))
          else
            some (y_1.2, x)

/-- spec.l23Spoil -/
noncomputable def spec_l23Spoil_ix1 (s_ : L00Src) (x : List Volume) (x_ix : Int) : Option (L00Src × (List Volume)) :=
  ck (ixOk x_ix x.length) <|
  (spec_l00Src_pick s_ 5).bind fun y_2 =>
  if (y_2.1 == 0) then
    (spec_l00Src_text y_2.2 ([([] : List UInt8), ([65] : List UInt8), ([122, 122] : List UInt8)] : List (List UInt8))).bind fun y_4 =>
    ck ((x.set x_ix.toNat (Volume.mk y_4.1 ((x.getD x_ix.toNat default).From) ((x.getD x_ix.toNat default).To) ((x.getD x_ix.toNat default).Count) ((x.getD x_ix.toNat default).Copies))).length == x.length) <|
    some (y_4.2, (x.set x_ix.toNat (Volume.mk y_4.1 ((x.getD x_ix.toNat default).From) ((x.getD x_ix.toNat default).To) ((x.getD x_ix.toNat default).Count) ((x.getD x_ix.toNat default).Copies))))
  else
    if (y_2.1 == 1) then
      (spec_l00Src_among y_2.2 ([(-1), 0, (x.getD x_ix.toNat default).To, (IntKind.i64.wrap (((x.getD x_ix.toNat default).To) + 1))] : List Int)).bind fun y_7 =>
      ck ((x.set x_ix.toNat (Volume.mk ((x.getD x_ix.toNat default).Name) y_7.1 ((x.getD x_ix.toNat default).To) ((x.getD x_ix.toNat default).Count) ((x.getD x_ix.toNat default).Copies))).length == x.length) <|
      some (y_7.2, (x.set x_ix.toNat (Volume.mk ((x.getD x_ix.toNat default).Name) y_7.1 ((x.getD x_ix.toNat default).To) ((x.getD x_ix.toNat default).Count) ((x.getD x_ix.toNat default).Copies))))
    else
      if (y_2.1 == 2) then
        (spec_l00Src_among y_2.2 ([(-1), 10000000, 10000001] : List Int)).bind fun y_10 =>
        ck ((x.set x_ix.toNat (Volume.mk ((x.getD x_ix.toNat default).Name) ((x.getD x_ix.toNat default).From) y_10.1 ((x.getD x_ix.toNat default).Count) ((x.getD x_ix.toNat default).Copies))).length == x.length) <|
        some (y_10.2, (x.set x_ix.toNat (Volume.mk ((x.getD x_ix.toNat default).Name) ((x.getD x_ix.toNat default).From) y_10.1 ((x.getD x_ix.toNat default).Count) ((x.getD x_ix.toNat default).Copies))))
      else
        if (y_2.1 == 3) then
          (spec_l00Src_among y_2.2 ([0, 1, 1000000, 1000001, (-9223372036854775808)] : List Int)).bind fun y_13 =>
          ck ((x.set x_ix.toNat (Volume.mk ((x.getD x_ix.toNat default).Name) ((x.getD x_ix.toNat default).From) ((x.getD x_ix.toNat default).To) y_13.1 ((x.getD x_ix.toNat default).Copies))).length == x.length) <|
          some (y_13.2, (x.set x_ix.toNat (Volume.mk ((x.getD x_ix.toNat default).Name) ((x.getD x_ix.toNat default).From) ((x.getD x_ix.toNat default).To) y_13.1 ((x.getD x_ix.toNat default).Copies))))
        else
          if (y_2.1 == 4) then
            (spec_l00Src_among y_2.2 ([(-1), 0, 5, 6] : List Int)).bind fun y_16 =>
            ck ((x.set x_ix.toNat (Volume.mk ((x.getD x_ix.toNat default).Name) ((x.getD x_ix.toNat default).From) ((x.getD x_ix.toNat default).To) ((x.getD x_ix.toNat default).Count) y_16.1)).length == x.length) <|
            some (y_16.2, (x.set x_ix.toNat (Volume.mk ((x.getD x_ix.toNat default).Name) ((x.getD x_ix.toNat default).From) ((x.getD x_ix.toNat default).To) ((x.getD x_ix.toNat default).Count) y_16.1)))
          else
            some (y_2.2, x)

noncomputable def spec_l23Bent_l1 (names : List (List UInt8)) : (L00Src × (List Volume) × Int) → Option ((L00Src × (List Volume) × Int) ⊕ (L00Src × (List Volume)))
  | (s_, list, k) =>
    if (decide (k < (names.length : Int))) then
      (spec_l00Src_one s_ 3).bind fun y_2 =>
      if (!y_2.1) then
        ck (ixOk k names.length) <|
        (spec_l23New y_2.2 (names.getD k.toNat default)).bind fun y_5 =>
        ck (appOk (list.length + ([y_5.1] : List Volume).length) 48) <|
        some (.inl (y_5.2, (list ++ ([y_5.1] : List Volume)), (IntKind.i64.wrap (k + 1))))
      else
        some (.inl (y_2.2, list, (IntKind.i64.wrap (k + 1))))
    else
      some (.inr (s_, list))

noncomputable def spec_l23Bent_l2 (s_ : L00Src) : ((List Volume) × Int) → Option (((List Volume) × Int) ⊕ (List Volume))
  | (list, k) =>
    if (decide (0 < k)) then
      ck (nz 26) <|
      ck (catOk ([118] : List UInt8).length ([(toU8 (IntKind.u8.wrap (IntKind.i64.wrap (97 + (IntKind.i64.wrap ((list.length : Int).tdiv 26)))))), (toU8 (IntKind.u8.wrap (IntKind.i64.wrap (97 + ((list.length : Int).tmod 26)))))] : List UInt8).length) <|
      ck (appOk (list.length + ([(Volume.mk (([118] : List UInt8) ++ ([(toU8 (IntKind.u8.wrap (IntKind.i64.wrap (97 + (IntKind.i64.wrap ((list.length : Int).tdiv 26)))))), (toU8 (IntKind.u8.wrap (IntKind.i64.wrap (97 + ((list.length : Int).tmod 26)))))] : List UInt8)) (IntKind.i64.wrap (20 * (list.length : Int))) (IntKind.i64.wrap ((IntKind.i64.wrap (20 * (list.length : Int))) + 5)) 1 1)] : List Volume).length) 48) <|
      some (.inl ((list ++ ([(Volume.mk (([118] : List UInt8) ++ ([(toU8 (IntKind.u8.wrap (IntKind.i64.wrap (97 + (IntKind.i64.wrap ((list.length : Int).tdiv 26)))))), (toU8 (IntKind.u8.wrap (IntKind.i64.wrap (97 + ((list.length : Int).tmod 26)))))] : List UInt8)) (IntKind.i64.wrap (20 * (list.length : Int))) (IntKind.i64.wrap ((IntKind.i64.wrap (20 * (list.length : Int))) + 5)) 1 1)] : List Volume)), (IntKind.i64.wrap (k - 1))))
    else
      some (.inr list)

/-- spec.l23Bent -/
noncomputable def spec_l23Bent (s_ : L00Src) : Option ((List Volume) × L00Src) :=
  (whileE (spec_l23Bent_l1 ([([97] : List UInt8), ([98] : List UInt8), ([99, 45, 49] : List UInt8), ([100] : List UInt8), ([101] : List UInt8), ([102] : List UInt8), ([103] : List UInt8)] : List (List UInt8))) (s_, ([] : List Volume), 0)).bind fun y_7 =>
  (spec_l00Src_one y_7.1 20).bind fun y_8 =>
  if y_8.1 then
    (spec_l00Src_pick y_8.2 2).bind fun y_10 =>
    (whileE (spec_l23Bent_l2 y_10.2) (([] : List Volume), (IntKind.i64.wrap (40 + y_10.1)))).bind fun y_15 =>
    if (decide (0 < (y_15.length : Int))) then
      (spec_l00Src_one y_10.2 10).bind fun y_17 =>
      if ((decide (0 < (y_15.length : Int))) && y_17.1) then
        (spec_l00Src_pick y_17.2 (y_15.length : Int)).bind fun y_19 =>
        ck (ixOk y_19.1 y_15.length) <|
        (spec_l23Spoil_ix1 y_19.2 y_15 y_19.1).bind fun y_21 =>
        some (y_21.2, y_21.1)
      else
        some (y_15, y_17.2)
    else
      some (y_15, y_10.2)
  else
    if (decide (0 < (y_7.2.length : Int))) then
      (spec_l00Src_one y_8.2 10).bind fun y_23 =>
      if ((decide (0 < (y_7.2.length : Int))) && y_23.1) then
        (spec_l00Src_pick y_23.2 (y_7.2.length : Int)).bind fun y_25 =>
        ck (ixOk y_25.1 y_7.2.length) <|
        (spec_l23Spoil_ix1 y_25.2 y_7.2 y_25.1).bind fun y_27 =>
        some (y_27.2, y_27.1)
      else
        some (y_7.2, y_23.2)
    else
      some (y_7.2, y_8.2)

/-- spec.l23Name -/
noncomputable def spec_l23Name (s_ : L00Src) : Option ((List UInt8) × L00Src) :=
  (spec_l00Src_text s_ ([([97] : List UInt8), ([98] : List UInt8), ([99, 45, 49] : List UInt8), ([100] : List UInt8), ([101] : List UInt8), ([102] : List UInt8), ([110, 101, 119] : List UInt8), ([] : List UInt8)] : List (List UInt8))).bind fun y_1 =>
  some (y_1.1, y_1.2)

/-- spec.DrawStoreVolume -/
noncomputable def spec_DrawStoreVolume (code : List UInt8) : Option ((List Volume) × Volume) :=
  (spec_l00From code).bind fun y_1 =>
  (spec_l23Bent y_1).bind fun y_2 =>
  (spec_l23Name y_2.2).bind fun y_3 =>
  (spec_l23New y_3.2 y_3.1).bind fun y_4 =>
  (spec_l00Src_one y_4.2 8).bind fun y_5 =>
  if y_5.1 then
    (spec_l23Spoil y_5.2 y_4.1).bind fun y_7 =>
    some (y_2.1, y_7.2)
  else
    some (y_2.1, y_4.1)

/-- impl.in -/
noncomputable def impl_in (n : Int) (low : Int) (high : Int) : Option Bool :=
  some ((decide (low ≤ n)) && (decide (n ≤ high)))

/-- impl.ValidTime -/
noncomputable def impl_ValidTime (t : Int) : Option Bool :=
  (impl_in t 0 10000000).bind fun y_1 =>
  some y_1

noncomputable def impl_IsName_l1 (s_ : List UInt8) (t15 : Int) : Int → Option (Int ⊕ (Unit ⊕ Bool))
  | t16 =>
    if (decide (t16 < t15)) then
      ck (ixOk t16 s_.length) <|
      if ((!((decide (97 ≤ ((s_.getD t16.toNat 0).toNat : Int))) && (decide (((s_.getD t16.toNat 0).toNat : Int) ≤ 122)))) && ((t16 == 0) || (!(((decide (48 ≤ ((s_.getD t16.toNat 0).toNat : Int))) && (decide (((s_.getD t16.toNat 0).toNat : Int) ≤ 57))) || (((s_.getD t16.toNat 0).toNat : Int) == 45))))) then
        some (.inr (.inr false))
      else
        some (.inl (IntKind.i64.wrap (t16 + 1)))
    else
      some (.inr (.inl ()))

/-- impl.IsName -/
noncomputable def impl_IsName (s_ : List UInt8) : Option Bool :=
  if ((decide ((s_.length : Int) < 1)) || (decide (12 < (s_.length : Int)))) then
    some false
  else
    (whileE (impl_IsName_l1 s_ (s_.length : Int)) 0).bind fun y_5 =>
    match y_5 with
    | .inl y_5a =>
      some true
    | .inr y_5b =>
      some y_5b

/-- impl.isVolume -/
noncomputable def impl_isVolume (x : Volume) : Option Bool :=
  (impl_ValidTime x.From).bind fun y_1 =>
  ck (!y_1 || (impl_ValidTime x.To).isSome) <|
  (impl_IsName x.Name).bind fun y_3 =>
  ck (!(y_3 && ((y_1 && ((impl_ValidTime x.To).getD default)) && (decide (x.From ≤ x.To)))) || (impl_in x.Count 1 1000000).isSome) <|
  ck (!((y_3 && ((y_1 && ((impl_ValidTime x.To).getD default)) && (decide (x.From ≤ x.To)))) && ((impl_in x.Count 1 1000000).getD default)) || (impl_in x.Copies 0 5).isSome) <|
  some (((y_3 && ((y_1 && ((impl_ValidTime x.To).getD default)) && (decide (x.From ≤ x.To)))) && ((impl_in x.Count 1 1000000).getD default)) && ((impl_in x.Copies 0 5).getD default))

/-- impl.volumeName -/
noncomputable def impl_volumeName (x : Volume) : Option (List UInt8) :=
  some x.Name

noncomputable def impl_rising_impl_Volume__impl_isVolume__impl_volumeName_l1 (list : List Volume) (t15 : List Volume) (t16 : Int) : Int → Option (Int ⊕ (Unit ⊕ Bool))
  | t17 =>
    if (decide (t17 < t16)) then
      ck (ixOk t17 t15.length) <|
      (impl_isVolume (t15.getD t17.toNat default)).bind fun y_4 =>
      ck (!((!(!y_4)) && (decide (0 < t17))) || ixOk (IntKind.i64.wrap (t17 - 1)) list.length) <|
      ck (!((!(!y_4)) && (decide (0 < t17))) || (impl_volumeName (list.getD (IntKind.i64.wrap (t17 - 1)).toNat default)).isSome) <|
      ck (!((!(!y_4)) && (decide (0 < t17))) || (impl_volumeName (t15.getD t17.toNat default)).isSome) <|
      if ((!y_4) || ((decide (0 < t17)) && (!(Op.bytesLess ((impl_volumeName (list.getD (IntKind.i64.wrap (t17 - 1)).toNat default)).getD default) ((impl_volumeName (t15.getD t17.toNat default)).getD default))))) then
        some (.inr (.inr false))
      else
        some (.inl (IntKind.i64.wrap (t17 + 1)))
    else
      some (.inr (.inl ()))

/-- impl.rising[impl.Volume] -/
noncomputable def impl_rising_impl_Volume__impl_isVolume__impl_volumeName (list : List Volume) (most : Int) : Option Bool :=
  if (decide (most < (list.length : Int))) then
    some false
  else
    (whileE (impl_rising_impl_Volume__impl_isVolume__impl_volumeName_l1 list list (list.length : Int)) 0).bind fun y_9 =>
    match y_9 with
    | .inl y_9a =>
      some true
    | .inr y_9b =>
      some y_9b

/-- impl.ValidVolumes -/
noncomputable def impl_ValidVolumes (list : List Volume) : Option Bool :=
  (impl_rising_impl_Volume__impl_isVolume__impl_volumeName list 40).bind fun y_1 =>
  some y_1

/-- impl.findVolume$1 -/
noncomputable def impl_findVolume_c1 (x : Volume) (t1 : List UInt8) : Option Bool :=
  some (x.Name == t1)

noncomputable def slices_IndexFunc_impl_Volume_impl_Volume__impl_findVolume_c1_l1 (s_ : List Volume) (c : List UInt8) (t7 : Int) : Int → Option (Int ⊕ (Unit ⊕ Int))
  | t8 =>
    if (decide (t8 < t7)) then
      ck (ixOk t8 s_.length) <|
      (impl_findVolume_c1 (s_.getD t8.toNat default) c).bind fun y_3 =>
      if y_3 then
        some (.inr (.inr t8))
      else
        some (.inl (IntKind.i64.wrap (t8 + 1)))
    else
      some (.inr (.inl ()))

/-- slices.IndexFunc[[]impl.Volume,impl.Volume] -/
noncomputable def slices_IndexFunc_impl_Volume_impl_Volume__impl_findVolume_c1 (s_ : List Volume) (f_c0 : List UInt8) : Option Int :=
  (whileE (slices_IndexFunc_impl_Volume_impl_Volume__impl_findVolume_c1_l1 s_ f_c0 (s_.length : Int)) 0).bind fun y_5 =>
  match y_5 with
  | .inl y_5a =>
    some (-1)
  | .inr y_5b =>
    some y_5b

/-- impl.indexOf[impl.Volume] -/
noncomputable def impl_indexOf_impl_Volume__impl_findVolume_c1 (list : List Volume) (wanted_c0 : List UInt8) : Option (Int × Int) :=
  (slices_IndexFunc_impl_Volume_impl_Volume__impl_findVolume_c1 list wanted_c0).bind fun y_1 =>
  if (decide (0 ≤ y_1)) then
    some (y_1, 0)
  else
    some (0, 3)

/-- impl.findVolume -/
noncomputable def impl_findVolume (list : List Volume) (name : List UInt8) : Option (Int × Int) :=
  (impl_indexOf_impl_Volume__impl_findVolume_c1 list name).bind fun y_1 =>
  some (y_1.1, y_1.2)

/-- impl.copyOf[impl.Volume] -/
noncomputable def impl_copyOf_impl_Volume (list : List Volume) : Option (List Volume) :=
  ck (appOk (([] : List Volume).length + list.length) 48) <|
  some (([] : List Volume) ++ list)


noncomputable def impl_inserted_impl_Volume__impl_volumeName_l1 (list : List Volume) (x : Volume) : Int → Option (Int ⊕ Int)
  | k =>
    ck (!(decide (k < (list.length : Int))) || ixOk k list.length) <|
    ck (!(decide (k < (list.length : Int))) || (impl_volumeName (list.getD k.toNat default)).isSome) <|
    ck (!(decide (k < (list.length : Int))) || (impl_volumeName x).isSome) <|
    if ((decide (k < (list.length : Int))) && (Op.bytesLess ((impl_volumeName (list.getD k.toNat default)).getD default) ((impl_volumeName x).getD default))) then
      some (.inl (IntKind.i64.wrap (k + 1)))
    else
      some (.inr k)

/-- impl.inserted[impl.Volume] -/
noncomputable def impl_inserted_impl_Volume__impl_volumeName (list : List Volume) (x : Volume) : Option (List Volume) :=
  (whileE (impl_inserted_impl_Volume__impl_volumeName_l1 list x) 0).bind fun y_5 =>
  (impl_copyOf_impl_Volume list).bind fun y_6 =>
  (hIns 48 y_6 y_5 ([x] : List Volume)).bind fun y_7 =>
  some y_7

/-- impl.StoreVolume -/
noncomputable def impl_StoreVolume (list : List Volume) (x : Volume) : Option ((List Volume) × Int) :=
  (impl_ValidVolumes list).bind fun y_1 =>
  if (!y_1) then
    some (([] : List Volume), 1)
  else
    (impl_isVolume x).bind fun y_3 =>
    if (!y_3) then
      some (([] : List Volume), 2)
    else
      (impl_findVolume list x.Name).bind fun y_5 =>
      if (y_5.2 == 0) then
        some (([] : List Volume), 4)
      else
        if ((list.length : Int) == 40) then
          some (([] : List Volume), 5)
        else
          (impl_inserted_impl_Volume__impl_volumeName list x).bind fun y_8 =>
          some (y_8, 0)

/-- spec.l01Small -/
noncomputable def spec_l01Small (c : UInt8) : Option Bool :=
  some ((decide (97 ≤ (c.toNat : Int))) && (decide ((c.toNat : Int) ≤ 122)))

/-- spec.l01Digit -/
noncomputable def spec_l01Digit (c : UInt8) : Option Bool :=
  some ((decide (48 ≤ (c.toNat : Int))) && (decide ((c.toNat : Int) ≤ 57)))

noncomputable def spec_IsName_l1 (s_ : List UInt8) : Int → Option (Int ⊕ (Unit ⊕ Bool))
  | i =>
    if (decide (i < (s_.length : Int))) then
      ck (ixOk i s_.length) <|
      (spec_l01Small (s_.getD i.toNat 0)).bind fun y_6 =>
      ck (!(!y_6) || (spec_l01Digit (s_.getD i.toNat 0)).isSome) <|
      if (((!y_6) && (!((spec_l01Digit (s_.getD i.toNat 0)).getD default))) && (!(((s_.getD i.toNat 0).toNat : Int) == 45))) then
        some (.inr (.inr false))
      else
        some (.inl (IntKind.i64.wrap (i + 1)))
    else
      some (.inr (.inl ()))

/-- spec.IsName -/
noncomputable def spec_IsName (s_ : List UInt8) : Option Bool :=
  ck (!(!((s_ == ([] : List UInt8)) || (decide (12 < (s_.length : Int))))) || ixOk 0 s_.length) <|
  ck (!(!((s_ == ([] : List UInt8)) || (decide (12 < (s_.length : Int))))) || (spec_l01Small (s_.getD 0 0)).isSome) <|
  if (((s_ == ([] : List UInt8)) || (decide (12 < (s_.length : Int)))) || (!((spec_l01Small (s_.getD 0 0)).getD default))) then
    some false
  else
    (whileE (spec_IsName_l1 s_) 0).bind fun y_9 =>
    match y_9 with
    | .inl y_9a =>
      some true
    | .inr y_9b =>
      some y_9b

/-- spec.l00In -/
noncomputable def spec_l00In (n : Int) (low : Int) (high : Int) : Option Bool :=
  some ((decide (low ≤ n)) && (decide (n ≤ high)))

/-- spec.l03Time -/
noncomputable def spec_l03Time (t : Int) : Option Bool :=
  (spec_l00In t 0 10000000).bind fun y_1 =>
  some y_1

/-- spec.l23One -/
noncomputable def spec_l23One (x : Volume) : Option Bool :=
  (spec_IsName x.Name).bind fun y_1 =>
  ck (!y_1 || (spec_l03Time x.From).isSome) <|
  ck (!(y_1 && ((spec_l03Time x.From).getD default)) || (spec_l00In x.To x.From 10000000).isSome) <|
  ck (!((y_1 && ((spec_l03Time x.From).getD default)) && ((spec_l00In x.To x.From 10000000).getD default)) || (spec_l00In x.Count 1 1000000).isSome) <|
  ck (!(((y_1 && ((spec_l03Time x.From).getD default)) && ((spec_l00In x.To x.From 10000000).getD default)) && ((spec_l00In x.Count 1 1000000).getD default)) || (spec_l00In x.Copies 0 5).isSome) <|
  some ((((y_1 && ((spec_l03Time x.From).getD default)) && ((spec_l00In x.To x.From 10000000).getD default)) && ((spec_l00In x.Count 1 1000000).getD default)) && ((spec_l00In x.Copies 0 5).getD default))

noncomputable def spec_l23Ok_l1 (list : List Volume) : Int → Option (Int ⊕ (Unit ⊕ Bool))
  | i =>
    if (decide (i < (list.length : Int))) then
      ck (ixOk i list.length) <|
      (spec_l23One (list.getD i.toNat default)).bind fun y_3 =>
      ck (!((!(!y_3)) && (decide (0 < i))) || ixOk (IntKind.i64.wrap (i - 1)) list.length) <|
      if ((!y_3) || ((decide (0 < i)) && (!(Op.bytesLess ((list.getD (IntKind.i64.wrap (i - 1)).toNat default).Name) ((list.getD i.toNat default).Name))))) then
        some (.inr (.inr false))
      else
        some (.inl (IntKind.i64.wrap (i + 1)))
    else
      some (.inr (.inl ()))

/-- spec.l23Ok -/
noncomputable def spec_l23Ok (list : List Volume) : Option Bool :=
  (whileE (spec_l23Ok_l1 list) 0).bind fun y_6 =>
  match y_6 with
  | .inl y_6a =>
    some (decide ((list.length : Int) ≤ 40))
  | .inr y_6b =>
    some y_6b

noncomputable def spec_l23Find_l1 (list : List Volume) (name : List UInt8) : Int → Option (Int ⊕ (Unit ⊕ Int))
  | i =>
    if (decide (i < (list.length : Int))) then
      ck (ixOk i list.length) <|
      if (((list.getD i.toNat default).Name) == name) then
        some (.inr (.inr i))
      else
        some (.inl (IntKind.i64.wrap (i + 1)))
    else
      some (.inr (.inl ()))

/-- spec.l23Find -/
noncomputable def spec_l23Find (list : List Volume) (name : List UInt8) : Option Int :=
  (whileE (spec_l23Find_l1 list name) 0).bind fun y_4 =>
  match y_4 with
  | .inl y_4a =>
    some (-1)
  | .inr y_4b =>
    some y_4b

noncomputable def spec_StoreVolume_l1 (list : List Volume) (x : Volume) : Int → Option (Int ⊕ Int)
  | k =>
    ck (!(decide (0 < k)) || ixOk (IntKind.i64.wrap (k - 1)) list.length) <|
    if ((decide (0 < k)) && (!(Op.bytesLess ((list.getD (IntKind.i64.wrap (k - 1)).toNat default).Name) x.Name || ((list.getD (IntKind.i64.wrap (k - 1)).toNat default).Name) == x.Name))) then
      some (.inl (IntKind.i64.wrap (k - 1)))
    else
      some (.inr k)

/-- spec.StoreVolume -/
noncomputable def spec_StoreVolume (list : List Volume) (x : Volume) : Option ((List Volume) × Int) :=
  (spec_l23Ok list).bind fun y_1 =>
  if (!y_1) then
    some (([] : List Volume), 1)
  else
    (spec_l23One x).bind fun y_3 =>
    if (!y_3) then
      some (([] : List Volume), 2)
    else
      (spec_l23Find list x.Name).bind fun y_5 =>
      if (decide (0 ≤ y_5)) then
        some (([] : List Volume), 4)
      else
        if (decide (40 ≤ (list.length : Int))) then
          some (([] : List Volume), 5)
        else
          (whileE (spec_StoreVolume_l1 list x) (list.length : Int)).bind fun y_10 =>
          ck (cutOk 0 y_10 list.length) <|
          ck (appOk (([] : List Volume).length + (cut list 0 y_10).length) 48) <|
          ck (appOk ((([] : List Volume) ++ (cut list 0 y_10)).length + ([x] : List Volume).length) 48) <|
          ck (cutOk y_10 (list.length : Int) list.length) <|
          ck (appOk (((([] : List Volume) ++ (cut list 0 y_10)) ++ ([x] : List Volume)).length + (cut list y_10 (list.length : Int)).length) 48) <|
          some ((((([] : List Volume) ++ (cut list 0 y_10)) ++ ([x] : List Volume)) ++ (cut list y_10 (list.length : Int))), 0)

/-- spec.DrawCopyVolume -/
noncomputable def spec_DrawCopyVolume (code : List UInt8) : Option ((List Volume) × (List UInt8)) :=
  (spec_l00From code).bind fun y_1 =>
  (spec_l23Bent y_1).bind fun y_2 =>
  if (decide (0 < (y_2.1.length : Int))) then
    (spec_l00Src_one y_2.2 8).bind fun y_4 =>
    if ((decide (0 < (y_2.1.length : Int))) && y_4.1) then
      ck (ixOk 0 y_2.1.length) <|
      some ((y_2.1.set 0 (Volume.mk ((y_2.1.getD 0 default).Name) ((y_2.1.getD 0 default).From) ((y_2.1.getD 0 default).To) ((y_2.1.getD 0 default).Count) 5)), (y_2.1.getD 0 default).Name)
    else
      (spec_l23Name y_4.2).bind fun y_7 =>
      some (y_2.1, y_7.1)
  else
    (spec_l23Name y_2.2).bind fun y_8 =>
    some (y_2.1, y_8.1)

/-- impl.changeCopies -/
noncomputable def impl_changeCopies (list : List Volume) (name : List UInt8) (by_ : Int) : Option ((List Volume) × Int) :=
  (impl_ValidVolumes list).bind fun y_1 =>
  if (!y_1) then
    some (([] : List Volume), 1)
  else
    (impl_findVolume list name).bind fun y_3 =>
    if (!(y_3.2 == 0)) then
      some (([] : List Volume), y_3.2)
    else
      ck (ixOk y_3.1 list.length) <|
      if (((list.getD y_3.1.toNat default).Copies) == 0) then
        some (([] : List Volume), 6)
      else
        if (decide (5 < (IntKind.i64.wrap (((list.getD y_3.1.toNat default).Copies) + by_)))) then
          some (([] : List Volume), 5)
        else
          (impl_copyOf_impl_Volume list).bind fun y_8 =>
          ck (ixOk y_3.1 y_8.length) <|
          some ((y_8.set y_3.1.toNat (Volume.mk ((y_8.getD y_3.1.toNat default).Name) ((y_8.getD y_3.1.toNat default).From) ((y_8.getD y_3.1.toNat default).To) ((y_8.getD y_3.1.toNat default).Count) (IntKind.i64.wrap (((y_8.getD y_3.1.toNat default).Copies) + by_)))), 0)

/-- impl.CopyVolume -/
noncomputable def impl_CopyVolume (list : List Volume) (name : List UInt8) : Option ((List Volume) × Int) :=
  (impl_changeCopies list name 1).bind fun y_1 =>
  some (y_1.1, y_1.2)

/-- spec.l23Change -/
noncomputable def spec_l23Change (list : List Volume) (name : List UInt8) (more : Int) : Option ((List Volume) × Int) :=
  (spec_l23Ok list).bind fun y_1 =>
  if (!y_1) then
    some (([] : List Volume), 1)
  else
    (spec_l23Find list name).bind fun y_3 =>
    if (decide (y_3 < 0)) then
      some (([] : List Volume), 3)
    else
      ck (ixOk y_3 list.length) <|
      if (((list.getD y_3.toNat default).Copies) == 0) then
        some (([] : List Volume), 6)
      else
        if (decide (5 < (IntKind.i64.wrap (((list.getD y_3.toNat default).Copies) + more)))) then
          some (([] : List Volume), 5)
        else
          ck (appOk (([] : List Volume).length + list.length) 48) <|
          ck (ixOk y_3 ((([] : List Volume) ++ list).length)) <|
          some (((([] : List Volume) ++ list).set y_3.toNat (Volume.mk (((([] : List Volume) ++ list).getD y_3.toNat default).Name) (((([] : List Volume) ++ list).getD y_3.toNat default).From) (((([] : List Volume) ++ list).getD y_3.toNat default).To) (((([] : List Volume) ++ list).getD y_3.toNat default).Count) (IntKind.i64.wrap (((list.getD y_3.toNat default).Copies) + more)))), 0)

/-- spec.CopyVolume -/
noncomputable def spec_CopyVolume (list : List Volume) (name : List UInt8) : Option ((List Volume) × Int) :=
  (spec_l23Change list name 1).bind fun y_1 =>
  some (y_1.1, y_1.2)

/-- impl.LoseCopy -/
noncomputable def impl_LoseCopy (list : List Volume) (name : List UInt8) : Option ((List Volume) × Int) :=
  (impl_changeCopies list name (-1)).bind fun y_1 =>
  some (y_1.1, y_1.2)

/-- spec.LoseCopy -/
noncomputable def spec_LoseCopy (list : List Volume) (name : List UInt8) : Option ((List Volume) × Int) :=
  (spec_l23Change list name (-1)).bind fun y_1 =>
  some (y_1.1, y_1.2)

/-- spec.DrawVolumesAt -/
noncomputable def spec_DrawVolumesAt (code : List UInt8) : Option ((List Volume) × Int) :=
  (spec_l00From code).bind fun y_1 =>
  (spec_l23Bent y_1).bind fun y_2 =>
  (spec_l00Src_one y_2.2 10).bind fun y_3 =>
  if y_3.1 then
    (spec_l00Src_among y_3.2 ([(-1), 0, 10000000, 10000001] : List Int)).bind fun y_5 =>
    some (y_2.1, y_5.1)
  else
    (spec_l00Src_pick y_3.2 900).bind fun y_6 =>
    some (y_2.1, y_6.1)

/-- impl.VolumesAt$1 -/
noncomputable def impl_VolumesAt_c1 (i : Int) (t1 : Int) (t2 : List Volume) : Option Bool :=
  ck (ixOk i t2.length) <|
  (impl_in t1 ((t2.getD i.toNat default).From) ((t2.getD i.toNat default).To)).bind fun y_2 =>
  some y_2

noncomputable def impl_indicesWhere__impl_VolumesAt_c1_l1 (c : Int) (c2 : List Volume) (t8 : Int) : ((List Int) × Int) → Option (((List Int) × Int) ⊕ (List Int))
  | (out, t9) =>
    if (decide (t9 < t8)) then
      (impl_VolumesAt_c1 t9 c c2).bind fun y_2 =>
      if y_2 then
        ck (appOk (out.length + ([t9] : List Int).length) 8) <|
        some (.inl ((out ++ ([t9] : List Int)), (IntKind.i64.wrap (t9 + 1))))
      else
        some (.inl (out, (IntKind.i64.wrap (t9 + 1))))
    else
      some (.inr out)

/-- impl.indicesWhere -/
noncomputable def impl_indicesWhere__impl_VolumesAt_c1 (n : Int) (wanted_c0 : Int) (wanted_c1 : List Volume) : Option (List Int) :=
  (whileE (impl_indicesWhere__impl_VolumesAt_c1_l1 wanted_c0 wanted_c1 n) (([] : List Int), 0)).bind fun y_5 =>
  some y_5

/-- impl.VolumesAt -/
noncomputable def impl_VolumesAt (list : List Volume) (t : Int) : Option ((List Int) × Int) :=
  (impl_ValidVolumes list).bind fun y_1 =>
  if (!y_1) then
    some (([] : List Int), 1)
  else
    (impl_ValidTime t).bind fun y_3 =>
    if (!y_3) then
      some (([] : List Int), 2)
    else
      (impl_indicesWhere__impl_VolumesAt_c1 (list.length : Int) t list).bind fun y_5 =>
      some (y_5, 0)

noncomputable def spec_VolumesAt_l1 (list : List Volume) (t : Int) : ((List Int) × Int) → Option (((List Int) × Int) ⊕ (List Int))
  | (out, i) =>
    if (decide (i < (list.length : Int))) then
      ck (ixOk i list.length) <|
      (spec_l00In t ((list.getD i.toNat default).From) ((list.getD i.toNat default).To)).bind fun y_7 =>
      if y_7 then
        ck (appOk (out.length + ([i] : List Int).length) 8) <|
        some (.inl ((out ++ ([i] : List Int)), (IntKind.i64.wrap (i + 1))))
      else
        some (.inl (out, (IntKind.i64.wrap (i + 1))))
    else
      some (.inr out)

/-- spec.VolumesAt -/
noncomputable def spec_VolumesAt (list : List Volume) (t : Int) : Option ((List Int) × Int) :=
  (spec_l23Ok list).bind fun y_1 =>
  if (!y_1) then
    some (([] : List Int), 1)
  else
    (spec_l03Time t).bind fun y_3 =>
    if (!y_3) then
      some (([] : List Int), 2)
    else
      (whileE (spec_VolumesAt_l1 list t) (([] : List Int), 0)).bind fun y_10 =>
      some (y_10, 0)

/-- spec.DrawEndangeredVolumes -/
noncomputable def spec_DrawEndangeredVolumes (code : List UInt8) : Option (List Volume) :=
  (spec_l00From code).bind fun y_1 =>
  (spec_l23Bent y_1).bind fun y_2 =>
  some y_2.1

/-- impl.EndangeredVolumes$1 -/
noncomputable def impl_EndangeredVolumes_c1 (i : Int) (t1 : List Volume) (t2 : Int) : Option Bool :=
  ck (ixOk i t1.length) <|
  some (((t1.getD i.toNat default).Copies) == t2)

noncomputable def impl_indicesWhere__impl_EndangeredVolumes_c1_l1 (c : List Volume) (c2 : Int) (t8 : Int) : ((List Int) × Int) → Option (((List Int) × Int) ⊕ (List Int))
  | (out, t9) =>
    if (decide (t9 < t8)) then
      (impl_EndangeredVolumes_c1 t9 c c2).bind fun y_2 =>
      if y_2 then
        ck (appOk (out.length + ([t9] : List Int).length) 8) <|
        some (.inl ((out ++ ([t9] : List Int)), (IntKind.i64.wrap (t9 + 1))))
      else
        some (.inl (out, (IntKind.i64.wrap (t9 + 1))))
    else
      some (.inr out)

/-- impl.indicesWhere -/
noncomputable def impl_indicesWhere__impl_EndangeredVolumes_c1 (n : Int) (wanted_c0 : List Volume) (wanted_c1 : Int) : Option (List Int) :=
  (whileE (impl_indicesWhere__impl_EndangeredVolumes_c1_l1 wanted_c0 wanted_c1 n) (([] : List Int), 0)).bind fun y_5 =>
  some y_5

noncomputable def impl_EndangeredVolumes_l1 (list : List Volume) (t10 : List Volume) (t11 : Int) : (Int × Int) → Option ((Int × Int) ⊕ Int)
  | (least, t12) =>
    if (decide (t12 < t11)) then
      ck (ixOk t12 t10.length) <|
      if (decide (0 < ((t10.getD t12.toNat default).Copies))) then
        some (.inl ((if ((t10.getD t12.toNat default).Copies) < least then ((t10.getD t12.toNat default).Copies) else least), (IntKind.i64.wrap (t12 + 1))))
      else
        some (.inl (least, (IntKind.i64.wrap (t12 + 1))))
    else
      some (.inr least)

/-- impl.EndangeredVolumes -/
noncomputable def impl_EndangeredVolumes (list : List Volume) : Option ((List Int) × Int) :=
  (impl_ValidVolumes list).bind fun y_1 =>
  if (!y_1) then
    some (([] : List Int), 1)
  else
    (whileE (impl_EndangeredVolumes_l1 list list (list.length : Int)) (5, 0)).bind fun y_6 =>
    (impl_indicesWhere__impl_EndangeredVolumes_c1 (list.length : Int) list y_6).bind fun y_7 =>
    some (y_7, 0)

/-- spec.l00Min -/
noncomputable def spec_l00Min (a : Int) (b : Int) : Option Int :=
  if (decide (a < b)) then
    some a
  else
    some b

noncomputable def spec_EndangeredVolumes_l1 (list : List Volume) : (Int × Int) → Option ((Int × Int) ⊕ Int)
  | (least, i) =>
    if (decide (i < (list.length : Int))) then
      ck (ixOk i list.length) <|
      if (decide (0 < ((list.getD i.toNat default).Copies))) then
        (spec_l00Min least ((list.getD i.toNat default).Copies)).bind fun y_6 =>
        some (.inl (y_6, (IntKind.i64.wrap (i + 1))))
      else
        some (.inl (least, (IntKind.i64.wrap (i + 1))))
    else
      some (.inr least)

noncomputable def spec_EndangeredVolumes_l2 (list : List Volume) (least : Int) : ((List Int) × Int) → Option (((List Int) × Int) ⊕ (List Int))
  | (out, i) =>
    if (decide (i < (list.length : Int))) then
      ck (ixOk i list.length) <|
      if (((list.getD i.toNat default).Copies) == least) then
        ck (appOk (out.length + ([i] : List Int).length) 8) <|
        some (.inl ((out ++ ([i] : List Int)), (IntKind.i64.wrap (i + 1))))
      else
        some (.inl (out, (IntKind.i64.wrap (i + 1))))
    else
      some (.inr out)

/-- spec.EndangeredVolumes -/
noncomputable def spec_EndangeredVolumes (list : List Volume) : Option ((List Int) × Int) :=
  (spec_l23Ok list).bind fun y_1 =>
  if (!y_1) then
    some (([] : List Int), 1)
  else
    (whileE (spec_EndangeredVolumes_l1 list) (6, 0)).bind fun y_7 =>
    (whileE (spec_EndangeredVolumes_l2 list y_7) (([] : List Int), 0)).bind fun y_12 =>
    some (y_12, 0)

/-- spec.l06New -/
noncomputable def spec_l06New (s_ : L00Src) : Option (Estimate × L00Src) :=
  (spec_l00Src_pick s_ 30).bind fun y_1 =>
  (spec_l00Src_one y_1.2 2).bind fun y_2 =>
  if y_2.1 then
    (spec_l00Src_pick y_2.2 3000).bind fun y_4 =>
    (spec_l00Src_text y_4.2 ([([109, 105, 114, 97] : List UInt8), ([114, 114, 45, 108, 121, 114] : List UInt8), ([115, 115, 45, 99, 121, 103] : List UInt8)] : List (List UInt8))).bind fun y_5 =>
    (spec_l00Src_text y_5.2 ([([97, 98] : List UInt8), ([99, 100] : List UInt8), ([101] : List UInt8)] : List (List UInt8))).bind fun y_6 =>
    (spec_l00Src_pick y_6.2 60).bind fun y_7 =>
    (spec_l00Src_one y_7.2 5).bind fun y_8 =>
    some ((Estimate.mk (IntKind.i64.wrap ((IntKind.i64.wrap (1000 * y_1.1)) + y_4.1)) y_5.1 y_6.1 (IntKind.i64.wrap (8000 + (IntKind.i64.wrap (50 * y_7.1)))) y_8.1), y_8.2)
  else
    (spec_l00Src_text y_2.2 ([([109, 105, 114, 97] : List UInt8), ([114, 114, 45, 108, 121, 114] : List UInt8), ([115, 115, 45, 99, 121, 103] : List UInt8)] : List (List UInt8))).bind fun y_9 =>
    (spec_l00Src_text y_9.2 ([([97, 98] : List UInt8), ([99, 100] : List UInt8), ([101] : List UInt8)] : List (List UInt8))).bind fun y_10 =>
    (spec_l00Src_pick y_10.2 60).bind fun y_11 =>
    (spec_l00Src_one y_11.2 5).bind fun y_12 =>
    some ((Estimate.mk (IntKind.i64.wrap (1000 * y_1.1)) y_9.1 y_10.1 (IntKind.i64.wrap (8000 + (IntKind.i64.wrap (50 * y_11.1)))) y_12.1), y_12.2)

/-- spec.l06Before -/
noncomputable def spec_l06Before (a : Estimate) (b : Estimate) : Option Bool :=
  if (!(a.Time == b.Time)) then
    some (decide (a.Time < b.Time))
  else
    if (!(a.Star == b.Star)) then
      some (Op.bytesLess a.Star b.Star)
    else
      some (Op.bytesLess a.Observer b.Observer)

noncomputable def spec_l06Find_l1 (list : List Estimate) (e_ : Estimate) : Int → Option (Int ⊕ (Unit ⊕ Int))
  | i =>
    if (decide (i < (list.length : Int))) then
      ck (ixOk i list.length) <|
      (spec_l06Before (list.getD i.toNat default) e_).bind fun y_3 =>
      ck (!(!y_3) || (spec_l06Before e_ (list.getD i.toNat default)).isSome) <|
      if ((!y_3) && (!((spec_l06Before e_ (list.getD i.toNat default)).getD default))) then
        some (.inr (.inr i))
      else
        some (.inl (IntKind.i64.wrap (i + 1)))
    else
      some (.inr (.inl ()))

/-- spec.l06Find -/
noncomputable def spec_l06Find (list : List Estimate) (e_ : Estimate) : Option Int :=
  (whileE (spec_l06Find_l1 list e_) 0).bind fun y_6 =>
  match y_6 with
  | .inl y_6a =>
    some (-1)
  | .inr y_6b =>
    some y_6b

noncomputable def spec_l06Put_l1 (list : List Estimate) (e_ : Estimate) : Int → Option (Int ⊕ Int)
  | k =>
    ck (!(decide (0 < k)) || ixOk (IntKind.i64.wrap (k - 1)) list.length) <|
    ck (!(decide (0 < k)) || (spec_l06Before e_ (list.getD (IntKind.i64.wrap (k - 1)).toNat default)).isSome) <|
    if ((decide (0 < k)) && ((spec_l06Before e_ (list.getD (IntKind.i64.wrap (k - 1)).toNat default)).getD default)) then
      some (.inl (IntKind.i64.wrap (k - 1)))
    else
      some (.inr k)

/-- spec.l06Put -/
noncomputable def spec_l06Put (list : List Estimate) (e_ : Estimate) : Option (List Estimate) :=
  (whileE (spec_l06Put_l1 list e_) (list.length : Int)).bind fun y_4 =>
  ck (cutOk 0 y_4 list.length) <|
  ck (appOk (([] : List Estimate).length + (cut list 0 y_4).length) 56) <|
  ck (appOk ((([] : List Estimate) ++ (cut list 0 y_4)).length + ([e_] : List Estimate).length) 56) <|
  ck (cutOk y_4 (list.length : Int) list.length) <|
  ck (appOk (((([] : List Estimate) ++ (cut list 0 y_4)) ++ ([e_] : List Estimate)).length + (cut list y_4 (list.length : Int)).length) 56) <|
  some (((([] : List Estimate) ++ (cut list 0 y_4)) ++ ([e_] : List Estimate)) ++ (cut list y_4 (list.length : Int)))

noncomputable def spec_l06Draw_l1  : (L00Src × (List Estimate) × Int) → Option ((L00Src × (List Estimate) × Int) ⊕ (L00Src × (List Estimate)))
  | (s_, out, k) =>
    if (decide (0 < k)) then
      (spec_l06New s_).bind fun y_3 =>
      (spec_l06Find out y_3.1).bind fun y_4 =>
      if (decide (y_4 < 0)) then
        (spec_l06Put out y_3.1).bind fun y_6 =>
        some (.inl (y_3.2, y_6, (IntKind.i64.wrap (k - 1))))
      else
        some (.inl (y_3.2, out, (IntKind.i64.wrap (k - 1))))
    else
      some (.inr (s_, out))

/-- spec.l06Draw -/
noncomputable def spec_l06Draw (s_ : L00Src) (most : Int) : Option ((List Estimate) × L00Src) :=
  (spec_l00Src_pick s_ (IntKind.i64.wrap (most + 1))).bind fun y_1 =>
  (whileE (spec_l06Draw_l1) (y_1.2, ([] : List Estimate), y_1.1)).bind fun y_7 =>
  some (y_7.2, y_7.1)

/-- spec.l02Draw -/
noncomputable def spec_l02Draw (s_ : L00Src) : Option (Int × L00Src) :=
  (spec_l00Src_one s_ 8).bind fun y_1 =>
  if y_1.1 then
    (spec_l00Src_pick y_1.2 22001).bind fun y_3 =>
    some ((IntKind.i64.wrap (y_3.1 + (-2000))), y_3.2)
  else
    (spec_l00Src_pick y_1.2 60).bind fun y_4 =>
    some ((IntKind.i64.wrap (8000 + (IntKind.i64.wrap (50 * y_4.1)))), y_4.2)

/-- spec.l02Bent -/
noncomputable def spec_l02Bent (s_ : L00Src) : Option (Int × L00Src) :=
  (spec_l00Src_one s_ 14).bind fun y_1 =>
  if y_1.1 then
    (spec_l00Src_among y_1.2 ([(-2001), (-2000), 20000, 20001, (-9223372036854775808), 9223372036854775807] : List Int)).bind fun y_3 =>
    some (y_3.1, y_3.2)
  else
    (spec_l02Draw y_1.2).bind fun y_4 =>
    some (y_4.1, y_4.2)

/-- spec.l06BentOne -/
noncomputable def spec_l06BentOne (s_ : L00Src) : Option (Estimate × L00Src) :=
  (spec_l06New s_).bind fun y_1 =>
  (spec_l00Src_pick y_1.2 24).bind fun y_2 =>
  if (y_2.1 == 0) then
    (spec_l00Src_among y_2.2 ([(-1), 0, 10000000, 10000001] : List Int)).bind fun y_4 =>
    some ((Estimate.mk y_4.1 y_1.1.Star y_1.1.Observer y_1.1.Mag y_1.1.Fainter), y_4.2)
  else
    if (y_2.1 == 1) then
      (spec_l00Src_text y_2.2 ([([] : List UInt8), ([77, 105, 114, 97] : List UInt8), ([97, 32, 98] : List UInt8)] : List (List UInt8))).bind fun y_6 =>
      some ((Estimate.mk y_1.1.Time y_6.1 y_1.1.Observer y_1.1.Mag y_1.1.Fainter), y_6.2)
    else
      if (y_2.1 == 2) then
        (spec_l00Src_text y_2.2 ([([] : List UInt8), ([65, 66] : List UInt8)] : List (List UInt8))).bind fun y_8 =>
        some ((Estimate.mk y_1.1.Time y_1.1.Star y_8.1 y_1.1.Mag y_1.1.Fainter), y_8.2)
      else
        if (y_2.1 == 3) then
          (spec_l02Bent y_2.2).bind fun y_10 =>
          some ((Estimate.mk y_1.1.Time y_1.1.Star y_1.1.Observer y_10.1 y_1.1.Fainter), y_10.2)
        else
          some (y_1.1, y_2.2)

noncomputable def spec_l06Bent_l1 (s_ : L00Src) : ((List Estimate) × Int) → Option (((List Estimate) × Int) ⊕ (List Estimate))
  | (list, k) =>
    if (decide (0 < k)) then
      ck (appOk (list.length + ([(Estimate.mk (list.length : Int) ([109, 105, 114, 97] : List UInt8) ([97, 98] : List UInt8) 9000 false)] : List Estimate).length) 56) <|
      some (.inl ((list ++ ([(Estimate.mk (list.length : Int) ([109, 105, 114, 97] : List UInt8) ([97, 98] : List UInt8) 9000 false)] : List Estimate)), (IntKind.i64.wrap (k - 1))))
    else
      some (.inr list)

/-- spec.l06Bent -/
noncomputable def spec_l06Bent (s_ : L00Src) : Option ((List Estimate) × L00Src) :=
  (spec_l06Draw s_ 10).bind fun y_1 =>
  (spec_l00Src_pick y_1.2 20).bind fun y_2 =>
  if (y_2.1 == 0) then
    (spec_l06BentOne y_2.2).bind fun y_4 =>
    ck (appOk (y_1.1.length + ([y_4.1] : List Estimate).length) 56) <|
    some ((y_1.1 ++ ([y_4.1] : List Estimate)), y_4.2)
  else
    if (y_2.1 == 1) then
      (spec_l00Src_pick y_2.2 2).bind fun y_7 =>
      (whileE (spec_l06Bent_l1 y_7.2) (([] : List Estimate), (IntKind.i64.wrap (100 + y_7.1)))).bind fun y_10 =>
      some (y_10, y_7.2)
    else
      if (y_2.1 == 2) then
        if (decide (0 < (y_1.1.length : Int))) then
          (spec_l00Src_pick y_2.2 (y_1.1.length : Int)).bind fun y_13 =>
          (spec_l06BentOne y_13.2).bind fun y_14 =>
          ck (ixOk y_13.1 y_1.1.length) <|
          some ((y_1.1.set y_13.1.toNat y_14.1), y_14.2)
        else
          some (y_1.1, y_2.2)
      else
        some (y_1.1, y_2.2)

/-- spec.DrawVolumeOf -/
noncomputable def spec_DrawVolumeOf (code : List UInt8) : Option ((List UInt8) × (List Estimate)) :=
  (spec_l00From code).bind fun y_1 =>
  (spec_l23Name y_1).bind fun y_2 =>
  (spec_l06Bent y_2.2).bind fun y_3 =>
  some (y_2.1, y_3.1)

/-- impl.count[impl.Estimate] -/
noncomputable def impl_count_impl_Estimate (list : List Estimate) : Option Int :=
  some (list.length : Int)

/-- impl.ValidMag -/
noncomputable def impl_ValidMag (m : Int) : Option Bool :=
  (impl_in m (-2000) 20000).bind fun y_1 =>
  some y_1

/-- impl.isEstimate -/
noncomputable def impl_isEstimate (e_ : Estimate) : Option Bool :=
  (impl_ValidTime e_.Time).bind fun y_1 =>
  ck (!y_1 || (impl_IsName e_.Star).isSome) <|
  ck (!(y_1 && ((impl_IsName e_.Star).getD default)) || (impl_IsName e_.Observer).isSome) <|
  ck (!((y_1 && ((impl_IsName e_.Star).getD default)) && ((impl_IsName e_.Observer).getD default)) || (impl_ValidMag e_.Mag).isSome) <|
  some (((y_1 && ((impl_IsName e_.Star).getD default)) && ((impl_IsName e_.Observer).getD default)) && ((impl_ValidMag e_.Mag).getD default))

/-- cmp.isNaN[int64] -/
noncomputable def cmp_isNaN_int64 (x : Int) : Option Bool :=
  some (!(x == x))

/-- cmp.Compare[int64] -/
noncomputable def cmp_Compare_int64 (x : Int) (y : Int) : Option Int :=
  (cmp_isNaN_int64 x).bind fun y_1 =>
  (cmp_isNaN_int64 y).bind fun y_2 =>
  if y_1 then
    if y_2 then
      some 0
    else
      some (-1)
  else
    if y_2 then
      some 1
    else
      if (decide (x < y)) then
        some (-1)
      else
        if (decide (y < x)) then
          some 1
        else
          some 0


/-- internal/bytealg.CompareString -/
noncomputable def internal_bytealg_CompareString (a : List UInt8) (b : List UInt8) : Option Int :=
  (hCmp a b).bind fun y_1 =>
  some y_1

/-- strings.Compare -/
noncomputable def strings_Compare (a : List UInt8) (b : List UInt8) : Option Int :=
  (internal_bytealg_CompareString a b).bind fun y_1 =>
  some y_1

noncomputable def cmp_Or_int_l1 (zero : Int) (t6 : List Int) (t7 : Int) : Int → Option (Int ⊕ (Unit ⊕ Int))
  | t8 =>
    if (decide (t8 < t7)) then
      ck (ixOk t8 t6.length) <|
      if (!((t6.getD t8.toNat default) == zero)) then
        some (.inr (.inr (t6.getD t8.toNat default)))
      else
        some (.inl (IntKind.i64.wrap (t8 + 1)))
    else
      some (.inr (.inl ()))

/-- cmp.Or[int] -/
noncomputable def cmp_Or_int (vals : List Int) : Option Int :=
  (whileE (cmp_Or_int_l1 0 vals (vals.length : Int)) 0).bind fun y_4 =>
  match y_4 with
  | .inl y_4a =>
    some 0
  | .inr y_4b =>
    some y_4b

/-- impl.compareEstimates -/
noncomputable def impl_compareEstimates (a : Estimate) (b : Estimate) : Option Int :=
  (cmp_Compare_int64 a.Time b.Time).bind fun y_1 =>
  (strings_Compare a.Star b.Star).bind fun y_2 =>
  (strings_Compare a.Observer b.Observer).bind fun y_3 =>
  (cmp_Or_int ([y_1, y_2, y_3] : List Int)).bind fun y_4 =>
  some y_4

noncomputable def impl_ValidEstimates_l1 (list : List Estimate) (t8 : List Estimate) (t9 : Int) : Int → Option (Int ⊕ (Unit ⊕ Bool))
  | t10 =>
    if (decide (t10 < t9)) then
      ck (ixOk t10 t8.length) <|
      (impl_isEstimate (t8.getD t10.toNat default)).bind fun y_4 =>
      ck (!((!(!y_4)) && (decide (0 < t10))) || ixOk (IntKind.i64.wrap (t10 - 1)) list.length) <|
      ck (!((!(!y_4)) && (decide (0 < t10))) || (impl_compareEstimates (list.getD (IntKind.i64.wrap (t10 - 1)).toNat default) (t8.getD t10.toNat default)).isSome) <|
      if ((!y_4) || ((decide (0 < t10)) && (decide (0 ≤ ((impl_compareEstimates (list.getD (IntKind.i64.wrap (t10 - 1)).toNat default) (t8.getD t10.toNat default)).getD default))))) then
        some (.inr (.inr false))
      else
        some (.inl (IntKind.i64.wrap (t10 + 1)))
    else
      some (.inr (.inl ()))

/-- impl.ValidEstimates -/
noncomputable def impl_ValidEstimates (list : List Estimate) : Option Bool :=
  if (decide (100 < (list.length : Int))) then
    some false
  else
    (whileE (impl_ValidEstimates_l1 list list (list.length : Int)) 0).bind fun y_8 =>
    match y_8 with
    | .inl y_8a =>
      some true
    | .inr y_8b =>
      some y_8b

/-- impl.VolumeOf -/
noncomputable def impl_VolumeOf (name : List UInt8) (estimates : List Estimate) : Option (Volume × Int) :=
  (impl_ValidEstimates estimates).bind fun y_1 =>
  if (!y_1) then
    some ((Volume.mk [] 0 0 0 0), 1)
  else
    (impl_IsName name).bind fun y_3 =>
    if (!y_3) then
      some ((Volume.mk [] 0 0 0 0), 2)
    else
      if ((estimates.length : Int) == 0) then
        some ((Volume.mk [] 0 0 0 0), 3)
      else
        ck (ixOk 0 estimates.length) <|
        ck (ixOk (IntKind.i64.wrap ((estimates.length : Int) - 1)) estimates.length) <|
        (impl_count_impl_Estimate estimates).bind fun y_8 =>
        some ((Volume.mk name ((estimates.getD 0 default).Time) ((estimates.getD (IntKind.i64.wrap ((estimates.length : Int) - 1)).toNat default).Time) y_8 1), 0)

/-- spec.l06Time -/
noncomputable def spec_l06Time (n : Int) : Option Bool :=
  (spec_l00In n 0 10000000).bind fun y_1 =>
  some y_1

/-- spec.l02Mag -/
noncomputable def spec_l02Mag (m : Int) : Option Bool :=
  (spec_l00In m (-2000) 20000).bind fun y_1 =>
  some y_1

/-- spec.l06One -/
noncomputable def spec_l06One (e_ : Estimate) : Option Bool :=
  (spec_l06Time e_.Time).bind fun y_1 =>
  ck (!y_1 || (spec_IsName e_.Star).isSome) <|
  ck (!(y_1 && ((spec_IsName e_.Star).getD default)) || (spec_IsName e_.Observer).isSome) <|
  ck (!((y_1 && ((spec_IsName e_.Star).getD default)) && ((spec_IsName e_.Observer).getD default)) || (spec_l02Mag e_.Mag).isSome) <|
  some (((y_1 && ((spec_IsName e_.Star).getD default)) && ((spec_IsName e_.Observer).getD default)) && ((spec_l02Mag e_.Mag).getD default))

noncomputable def spec_l06Ok_l1 (list : List Estimate) : Int → Option (Int ⊕ (Unit ⊕ Bool))
  | i =>
    if (decide (i < (list.length : Int))) then
      ck (ixOk i list.length) <|
      (spec_l06One (list.getD i.toNat default)).bind fun y_3 =>
      ck (!((!(!y_3)) && (decide (0 < i))) || ixOk (IntKind.i64.wrap (i - 1)) list.length) <|
      ck (!((!(!y_3)) && (decide (0 < i))) || (spec_l06Before (list.getD (IntKind.i64.wrap (i - 1)).toNat default) (list.getD i.toNat default)).isSome) <|
      if ((!y_3) || ((decide (0 < i)) && (!((spec_l06Before (list.getD (IntKind.i64.wrap (i - 1)).toNat default) (list.getD i.toNat default)).getD default)))) then
        some (.inr (.inr false))
      else
        some (.inl (IntKind.i64.wrap (i + 1)))
    else
      some (.inr (.inl ()))

/-- spec.l06Ok -/
noncomputable def spec_l06Ok (list : List Estimate) : Option Bool :=
  (whileE (spec_l06Ok_l1 list) 0).bind fun y_7 =>
  match y_7 with
  | .inl y_7a =>
    some (decide ((list.length : Int) ≤ 100))
  | .inr y_7b =>
    some y_7b

/-- spec.VolumeOf -/
noncomputable def spec_VolumeOf (name : List UInt8) (estimates : List Estimate) : Option (Volume × Int) :=
  (spec_l06Ok estimates).bind fun y_1 =>
  if (!y_1) then
    some ((Volume.mk [] 0 0 0 0), 1)
  else
    (spec_IsName name).bind fun y_3 =>
    if (!y_3) then
      some ((Volume.mk [] 0 0 0 0), 2)
    else
      if ((estimates.length : Int) == 0) then
        some ((Volume.mk [] 0 0 0 0), 3)
      else
        ck (ixOk 0 estimates.length) <|
        ck (ixOk (IntKind.i64.wrap ((estimates.length : Int) - 1)) estimates.length) <|
        some ((Volume.mk name ((estimates.getD 0 default).Time) ((estimates.getD (IntKind.i64.wrap ((estimates.length : Int) - 1)).toNat default).Time) (estimates.length : Int) 1), 0)

/-- spec.DrawSameVolumes -/
noncomputable def spec_DrawSameVolumes (code : List UInt8) : Option ((List Volume) × (List Volume)) :=
  (spec_l00From code).bind fun y_1 =>
  (spec_l23Bent y_1).bind fun y_2 =>
  ck (appOk (([] : List Volume).length + y_2.1.length) 48) <|
  if (decide (0 < ((([] : List Volume) ++ y_2.1).length : Int))) then
    (spec_l00Src_one y_2.2 2).bind fun y_5 =>
    if ((decide (0 < ((([] : List Volume) ++ y_2.1).length : Int))) && y_5.1) then
      ck (ixOk 0 ((([] : List Volume) ++ y_2.1).length)) <|
      (spec_l00Src_pick y_5.2 2).bind fun y_8 =>
      (spec_l00Src_one y_8.2 5).bind fun y_9 =>
      if y_9.1 then
        ck (appOk (((([] : List Volume) ++ y_2.1).set 0 (Volume.mk (((([] : List Volume) ++ y_2.1).getD 0 default).Name) (((([] : List Volume) ++ y_2.1).getD 0 default).From) (((([] : List Volume) ++ y_2.1).getD 0 default).To) (((([] : List Volume) ++ y_2.1).getD 0 default).Count) (IntKind.i64.wrap ((((([] : List Volume) ++ y_2.1).getD 0 default).Copies) + y_8.1)))).length + ([(Volume.mk [] 0 0 0 0)] : List Volume).length) 48) <|
        some (y_2.1, (((([] : List Volume) ++ y_2.1).set 0 (Volume.mk (((([] : List Volume) ++ y_2.1).getD 0 default).Name) (((([] : List Volume) ++ y_2.1).getD 0 default).From) (((([] : List Volume) ++ y_2.1).getD 0 default).To) (((([] : List Volume) ++ y_2.1).getD 0 default).Count) (IntKind.i64.wrap ((((([] : List Volume) ++ y_2.1).getD 0 default).Copies) + y_8.1)))) ++ ([(Volume.mk [] 0 0 0 0)] : List Volume)))
      else
        some (y_2.1, ((([] : List Volume) ++ y_2.1).set 0 (Volume.mk (((([] : List Volume) ++ y_2.1).getD 0 default).Name) (((([] : List Volume) ++ y_2.1).getD 0 default).From) (((([] : List Volume) ++ y_2.1).getD 0 default).To) (((([] : List Volume) ++ y_2.1).getD 0 default).Count) (IntKind.i64.wrap ((((([] : List Volume) ++ y_2.1).getD 0 default).Copies) + y_8.1)))))
    else
      (spec_l00Src_one y_5.2 5).bind fun y_12 =>
      if y_12.1 then
        ck (appOk ((([] : List Volume) ++ y_2.1).length + ([(Volume.mk [] 0 0 0 0)] : List Volume).length) 48) <|
        some (y_2.1, ((([] : List Volume) ++ y_2.1) ++ ([(Volume.mk [] 0 0 0 0)] : List Volume)))
      else
        some (y_2.1, (([] : List Volume) ++ y_2.1))
  else
    (spec_l00Src_one y_2.2 5).bind fun y_15 =>
    if y_15.1 then
      ck (appOk ((([] : List Volume) ++ y_2.1).length + ([(Volume.mk [] 0 0 0 0)] : List Volume).length) 48) <|
      some (y_2.1, ((([] : List Volume) ++ y_2.1) ++ ([(Volume.mk [] 0 0 0 0)] : List Volume)))
    else
      some (y_2.1, (([] : List Volume) ++ y_2.1))

/-- spec.DrawArchiveSummary -/
noncomputable def spec_DrawArchiveSummary (code : List UInt8) : Option (List Volume) :=
  (spec_l00From code).bind fun y_1 =>
  (spec_l23Bent y_1).bind fun y_2 =>
  some y_2.1

noncomputable def spec_SameVolumes_l1 (a : List Volume) (b : List Volume) : Int → Option (Int ⊕ (Unit ⊕ Bool))
  | i =>
    if (decide (i < (a.length : Int))) then
      ck (ixOk i a.length) <|
      ck (ixOk i b.length) <|
      if (!((((a.getD i.toNat default).Name) == ((b.getD i.toNat default).Name)) && ((((a.getD i.toNat default).From) == ((b.getD i.toNat default).From)) && ((((a.getD i.toNat default).To) == ((b.getD i.toNat default).To)) && ((((a.getD i.toNat default).Count) == ((b.getD i.toNat default).Count)) && (((a.getD i.toNat default).Copies) == ((b.getD i.toNat default).Copies))))))) then
        some (.inr (.inr false))
      else
        some (.inl (IntKind.i64.wrap (i + 1)))
    else
      some (.inr (.inl ()))

/-- spec.SameVolumes -/
noncomputable def spec_SameVolumes (a : List Volume) (b : List Volume) : Option Bool :=
  if (!((a.length : Int) == (b.length : Int))) then
    some false
  else
    (whileE (spec_SameVolumes_l1 a b) 0).bind fun y_6 =>
    match y_6 with
    | .inl y_6a =>
      some true
    | .inr y_6b =>
      some y_6b

noncomputable def laws_f6ints_l1 (a : List Int) (b : List Int) : Int → Option (Int ⊕ (Unit ⊕ Bool))
  | i =>
    if (decide (i < (a.length : Int))) then
      ck (ixOk i a.length) <|
      ck (ixOk i b.length) <|
      if (!((a.getD i.toNat default) == (b.getD i.toNat default))) then
        some (.inr (.inr false))
      else
        some (.inl (IntKind.i64.wrap (i + 1)))
    else
      some (.inr (.inl ()))

/-- laws.f6ints -/
noncomputable def laws_f6ints (a : List Int) (b : List Int) : Option Bool :=
  if (!((a.length : Int) == (b.length : Int))) then
    some false
  else
    (whileE (laws_f6ints_l1 a b) 0).bind fun y_6 =>
    match y_6 with
    | .inl y_6a =>
      some true
    | .inr y_6b =>
      some y_6b

noncomputable def slices_Equal_impl_Volume_impl_Volume_l1 (s1 : List Volume) (s2 : List Volume) (t12 : Int) : Int → Option (Int ⊕ (Unit ⊕ Bool))
  | t13 =>
    if (decide (t13 < t12)) then
      ck (ixOk t13 s1.length) <|
      ck (ixOk t13 s2.length) <|
      if (!((((s1.getD t13.toNat default).Name) == ((s2.getD t13.toNat default).Name)) && ((((s1.getD t13.toNat default).From) == ((s2.getD t13.toNat default).From)) && ((((s1.getD t13.toNat default).To) == ((s2.getD t13.toNat default).To)) && ((((s1.getD t13.toNat default).Count) == ((s2.getD t13.toNat default).Count)) && (((s1.getD t13.toNat default).Copies) == ((s2.getD t13.toNat default).Copies))))))) then
        some (.inr (.inr false))
      else
        some (.inl (IntKind.i64.wrap (t13 + 1)))
    else
      some (.inr (.inl ()))

/-- slices.Equal[[]impl.Volume,impl.Volume] -/
noncomputable def slices_Equal_impl_Volume_impl_Volume (s1 : List Volume) (s2 : List Volume) : Option Bool :=
  if (!((s1.length : Int) == (s2.length : Int))) then
    some false
  else
    (whileE (slices_Equal_impl_Volume_impl_Volume_l1 s1 s2 (s1.length : Int)) 0).bind fun y_6 =>
    match y_6 with
    | .inl y_6a =>
      some true
    | .inr y_6b =>
      some y_6b

/-- impl.SameVolumes -/
noncomputable def impl_SameVolumes (a : List Volume) (b : List Volume) : Option Bool :=
  (slices_Equal_impl_Volume_impl_Volume a b).bind fun y_1 =>
  some y_1

/-- spec.ValidVolumes -/
noncomputable def spec_ValidVolumes (list : List Volume) : Option Bool :=
  (spec_l23Ok list).bind fun y_1 =>
  some y_1

/-- impl.count[impl.Volume] -/
noncomputable def impl_count_impl_Volume (list : List Volume) : Option Int :=
  some (list.length : Int)


/-- strconv.FormatInt -/
noncomputable def strconv_FormatInt (i : Int) (base : Int) : Option (List UInt8) :=
  (hFmt i base).bind fun y_1 =>
  some y_1

/-- impl.Decimal -/
noncomputable def impl_Decimal (n : Int) : Option (List UInt8) :=
  (strconv_FormatInt n 10).bind fun y_1 =>
  some y_1

noncomputable def impl_ArchiveSummary_l1 (list : List Volume) (t11 : List Volume) (t12 : Int) : (Int × Int × Int × Int) → Option ((Int × Int × Int × Int) ⊕ (Int × Int × Int))
  | (estimates, copies, lost, t13) =>
    if (decide (t13 < t12)) then
      ck (ixOk t13 t11.length) <|
      if (((t11.getD t13.toNat default).Copies) == 0) then
        some (.inl ((IntKind.i64.wrap (estimates + ((t11.getD t13.toNat default).Count))), (IntKind.i64.wrap (copies + ((t11.getD t13.toNat default).Copies))), (IntKind.i64.wrap (lost + 1)), (IntKind.i64.wrap (t13 + 1))))
      else
        some (.inl ((IntKind.i64.wrap (estimates + ((t11.getD t13.toNat default).Count))), (IntKind.i64.wrap (copies + ((t11.getD t13.toNat default).Copies))), lost, (IntKind.i64.wrap (t13 + 1))))
    else
      some (.inr (estimates, copies, lost))

/-- impl.ArchiveSummary -/
noncomputable def impl_ArchiveSummary (list : List Volume) : Option (List UInt8) :=
  (impl_ValidVolumes list).bind fun y_1 =>
  if (!y_1) then
    some ([] : List UInt8)
  else
    (whileE (impl_ArchiveSummary_l1 list list (list.length : Int)) (0, 0, 0, 0)).bind fun y_6 =>
    (impl_count_impl_Volume list).bind fun y_7 =>
    (impl_Decimal y_7).bind fun y_8 =>
    ck (catOk y_8.length ([32, 118, 111, 108, 117, 109, 101, 115, 32] : List UInt8).length) <|
    (impl_Decimal y_6.1).bind fun y_10 =>
    ck (catOk (y_8 ++ ([32, 118, 111, 108, 117, 109, 101, 115, 32] : List UInt8)).length y_10.length) <|
    ck (catOk ((y_8 ++ ([32, 118, 111, 108, 117, 109, 101, 115, 32] : List UInt8)) ++ y_10).length ([32, 101, 115, 116, 105, 109, 97, 116, 101, 115, 32] : List UInt8).length) <|
    (impl_Decimal y_6.2.1).bind fun y_13 =>
    ck (catOk (((y_8 ++ ([32, 118, 111, 108, 117, 109, 101, 115, 32] : List UInt8)) ++ y_10) ++ ([32, 101, 115, 116, 105, 109, 97, 116, 101, 115, 32] : List UInt8)).length y_13.length) <|
    ck (catOk ((((y_8 ++ ([32, 118, 111, 108, 117, 109, 101, 115, 32] : List UInt8)) ++ y_10) ++ ([32, 101, 115, 116, 105, 109, 97, 116, 101, 115, 32] : List UInt8)) ++ y_13).length ([32, 99, 111, 112, 105, 101, 115, 32] : List UInt8).length) <|
    (impl_Decimal y_6.2.2).bind fun y_16 =>
    ck (catOk (((((y_8 ++ ([32, 118, 111, 108, 117, 109, 101, 115, 32] : List UInt8)) ++ y_10) ++ ([32, 101, 115, 116, 105, 109, 97, 116, 101, 115, 32] : List UInt8)) ++ y_13) ++ ([32, 99, 111, 112, 105, 101, 115, 32] : List UInt8)).length y_16.length) <|
    ck (catOk ((((((y_8 ++ ([32, 118, 111, 108, 117, 109, 101, 115, 32] : List UInt8)) ++ y_10) ++ ([32, 101, 115, 116, 105, 109, 97, 116, 101, 115, 32] : List UInt8)) ++ y_13) ++ ([32, 99, 111, 112, 105, 101, 115, 32] : List UInt8)) ++ y_16).length ([32, 108, 111, 115, 116] : List UInt8).length) <|
    some (((((((y_8 ++ ([32, 118, 111, 108, 117, 109, 101, 115, 32] : List UInt8)) ++ y_10) ++ ([32, 101, 115, 116, 105, 109, 97, 116, 101, 115, 32] : List UInt8)) ++ y_13) ++ ([32, 99, 111, 112, 105, 101, 115, 32] : List UInt8)) ++ y_16) ++ ([32, 108, 111, 115, 116] : List UInt8))

noncomputable def spec_l01Dec_l1 (n : Int) : ((List UInt8) × Int) → Option (((List UInt8) × Int) ⊕ (List UInt8))
  | (out, k) =>
    if (!(k == 0)) then
      ck (nz 10) <|
      if (decide ((k.tmod 10) < 0)) then
        ck (appOk (([(toU8 (IntKind.u8.wrap (IntKind.i64.wrap (48 + (IntKind.i64.wrap (0 - (k.tmod 10)))))))] : List UInt8).length + out.length) 1) <|
        some (.inl ((([(toU8 (IntKind.u8.wrap (IntKind.i64.wrap (48 + (IntKind.i64.wrap (0 - (k.tmod 10)))))))] : List UInt8) ++ out), (IntKind.i64.wrap (k.tdiv 10))))
      else
        ck (appOk (([(toU8 (IntKind.u8.wrap (IntKind.i64.wrap (48 + (k.tmod 10)))))] : List UInt8).length + out.length) 1) <|
        some (.inl ((([(toU8 (IntKind.u8.wrap (IntKind.i64.wrap (48 + (k.tmod 10)))))] : List UInt8) ++ out), (IntKind.i64.wrap (k.tdiv 10))))
    else
      some (.inr out)

/-- spec.l01Dec -/
noncomputable def spec_l01Dec (n : Int) : Option (List UInt8) :=
  (whileE (spec_l01Dec_l1 n) (([] : List UInt8), n)).bind fun y_6 =>
  if ((y_6.length : Int) == 0) then
    some ([48] : List UInt8)
  else
    if (decide (n < 0)) then
      ck (catOk ([45] : List UInt8).length y_6.length) <|
      some (([45] : List UInt8) ++ y_6)
    else
      some y_6

noncomputable def spec_ArchiveSummary_l1 (list : List Volume) : (Int × Int × Int × Int) → Option ((Int × Int × Int × Int) ⊕ (Int × Int × Int))
  | (count, copies, lost, i) =>
    if (decide (i < (list.length : Int))) then
      ck (ixOk i list.length) <|
      if (((list.getD i.toNat default).Copies) == 0) then
        some (.inl ((IntKind.i64.wrap (count + ((list.getD i.toNat default).Count))), (IntKind.i64.wrap (copies + ((list.getD i.toNat default).Copies))), (IntKind.i64.wrap (lost + 1)), (IntKind.i64.wrap (i + 1))))
      else
        some (.inl ((IntKind.i64.wrap (count + ((list.getD i.toNat default).Count))), (IntKind.i64.wrap (copies + ((list.getD i.toNat default).Copies))), lost, (IntKind.i64.wrap (i + 1))))
    else
      some (.inr (count, copies, lost))

/-- spec.ArchiveSummary -/
noncomputable def spec_ArchiveSummary (list : List Volume) : Option (List UInt8) :=
  (spec_l23Ok list).bind fun y_1 =>
  if (!y_1) then
    some ([] : List UInt8)
  else
    (whileE (spec_ArchiveSummary_l1 list) (0, 0, 0, 0)).bind fun y_6 =>
    (spec_l01Dec (list.length : Int)).bind fun y_7 =>
    ck (catOk y_7.length ([32, 118, 111, 108, 117, 109, 101, 115, 32] : List UInt8).length) <|
    (spec_l01Dec y_6.1).bind fun y_9 =>
    ck (catOk (y_7 ++ ([32, 118, 111, 108, 117, 109, 101, 115, 32] : List UInt8)).length y_9.length) <|
    ck (catOk ((y_7 ++ ([32, 118, 111, 108, 117, 109, 101, 115, 32] : List UInt8)) ++ y_9).length ([32, 101, 115, 116, 105, 109, 97, 116, 101, 115, 32] : List UInt8).length) <|
    (spec_l01Dec y_6.2.1).bind fun y_12 =>
    ck (catOk (((y_7 ++ ([32, 118, 111, 108, 117, 109, 101, 115, 32] : List UInt8)) ++ y_9) ++ ([32, 101, 115, 116, 105, 109, 97, 116, 101, 115, 32] : List UInt8)).length y_12.length) <|
    ck (catOk ((((y_7 ++ ([32, 118, 111, 108, 117, 109, 101, 115, 32] : List UInt8)) ++ y_9) ++ ([32, 101, 115, 116, 105, 109, 97, 116, 101, 115, 32] : List UInt8)) ++ y_12).length ([32, 99, 111, 112, 105, 101, 115, 32] : List UInt8).length) <|
    (spec_l01Dec y_6.2.2).bind fun y_15 =>
    ck (catOk (((((y_7 ++ ([32, 118, 111, 108, 117, 109, 101, 115, 32] : List UInt8)) ++ y_9) ++ ([32, 101, 115, 116, 105, 109, 97, 116, 101, 115, 32] : List UInt8)) ++ y_12) ++ ([32, 99, 111, 112, 105, 101, 115, 32] : List UInt8)).length y_15.length) <|
    ck (catOk ((((((y_7 ++ ([32, 118, 111, 108, 117, 109, 101, 115, 32] : List UInt8)) ++ y_9) ++ ([32, 101, 115, 116, 105, 109, 97, 116, 101, 115, 32] : List UInt8)) ++ y_12) ++ ([32, 99, 111, 112, 105, 101, 115, 32] : List UInt8)) ++ y_15).length ([32, 108, 111, 115, 116] : List UInt8).length) <|
    some (((((((y_7 ++ ([32, 118, 111, 108, 117, 109, 101, 115, 32] : List UInt8)) ++ y_9) ++ ([32, 101, 115, 116, 105, 109, 97, 116, 101, 115, 32] : List UInt8)) ++ y_12) ++ ([32, 99, 111, 112, 105, 101, 115, 32] : List UInt8)) ++ y_15) ++ ([32, 108, 111, 115, 116] : List UInt8))

noncomputable def laws_FnVolumes_l1 (x : Volume) (model : List Volume) (there : List Int) : Int → Option (Int ⊕ (Unit ⊕ Bool))
  | i =>
    if (decide (i < (there.length : Int))) then
      ck (ixOk i there.length) <|
      ck (!((decide (0 ≤ (there.getD i.toNat default))) && (decide ((there.getD i.toNat default) < (model.length : Int)))) || ixOk (there.getD i.toNat default) model.length) <|
      if (((decide (0 ≤ (there.getD i.toNat default))) && (decide ((there.getD i.toNat default) < (model.length : Int)))) && ((((model.getD (there.getD i.toNat default).toNat default).Name) == x.Name) && ((((model.getD (there.getD i.toNat default).toNat default).From) == x.From) && ((((model.getD (there.getD i.toNat default).toNat default).To) == x.To) && ((((model.getD (there.getD i.toNat default).toNat default).Count) == x.Count) && (((model.getD (there.getD i.toNat default).toNat default).Copies) == x.Copies)))))) then
        some (.inr (.inr true))
      else
        some (.inl (IntKind.i64.wrap (i + 1)))
    else
      some (.inr (.inl ()))

noncomputable def laws_FnVolumes_l2 (x : Volume) (model : List Volume) (there : List Int) : Int → Option (Int ⊕ (Unit ⊕ Bool))
  | i =>
    if (decide (i < (there.length : Int))) then
      ck (ixOk i there.length) <|
      ck (!((decide (0 ≤ (there.getD i.toNat default))) && (decide ((there.getD i.toNat default) < (model.length : Int)))) || ixOk (there.getD i.toNat default) model.length) <|
      if (((decide (0 ≤ (there.getD i.toNat default))) && (decide ((there.getD i.toNat default) < (model.length : Int)))) && ((((model.getD (there.getD i.toNat default).toNat default).Name) == x.Name) && ((((model.getD (there.getD i.toNat default).toNat default).From) == x.From) && ((((model.getD (there.getD i.toNat default).toNat default).To) == x.To) && ((((model.getD (there.getD i.toNat default).toNat default).Count) == x.Count) && (((model.getD (there.getD i.toNat default).toNat default).Copies) == x.Copies)))))) then
        some (.inr (.inr true))
      else
        some (.inl (IntKind.i64.wrap (i + 1)))
    else
      some (.inr (.inl ()))

/-- laws.FnVolumes -/
noncomputable def laws_FnVolumes (code : List UInt8) : Option Bool :=
  (laws_f6big code).bind fun y_1 =>
  if y_1 then
    some true
  else
    (spec_DrawStoreVolume code).bind fun y_3 =>
    (impl_StoreVolume y_3.1 y_3.2).bind fun y_4 =>
    (spec_StoreVolume y_3.1 y_3.2).bind fun y_5 =>
    (spec_DrawCopyVolume code).bind fun y_6 =>
    (impl_CopyVolume y_6.1 y_6.2).bind fun y_7 =>
    (spec_CopyVolume y_6.1 y_6.2).bind fun y_8 =>
    (impl_LoseCopy y_6.1 y_6.2).bind fun y_9 =>
    (spec_LoseCopy y_6.1 y_6.2).bind fun y_10 =>
    (spec_DrawVolumesAt code).bind fun y_11 =>
    (impl_VolumesAt y_11.1 y_11.2).bind fun y_12 =>
    (spec_VolumesAt y_11.1 y_11.2).bind fun y_13 =>
    (spec_DrawEndangeredVolumes code).bind fun y_14 =>
    (impl_EndangeredVolumes y_14).bind fun y_15 =>
    (spec_EndangeredVolumes y_14).bind fun y_16 =>
    (spec_DrawVolumeOf code).bind fun y_17 =>
    (impl_VolumeOf y_17.1 y_17.2).bind fun y_18 =>
    (spec_VolumeOf y_17.1 y_17.2).bind fun y_19 =>
    (spec_DrawSameVolumes code).bind fun y_20 =>
    (spec_DrawArchiveSummary code).bind fun y_21 =>
    ck (!(!(!(y_4.2 == y_5.2))) || (spec_SameVolumes y_4.1 y_5.1).isSome) <|
    ck (!(!(((!(y_4.2 == y_5.2)) || (!((spec_SameVolumes y_4.1 y_5.1).getD default))) || (!(y_7.2 == y_8.2)))) || (spec_SameVolumes y_7.1 y_8.1).isSome) <|
    ck (!(!(((((!(y_4.2 == y_5.2)) || (!((spec_SameVolumes y_4.1 y_5.1).getD default))) || (!(y_7.2 == y_8.2))) || (!((spec_SameVolumes y_7.1 y_8.1).getD default))) || (!(y_9.2 == y_10.2)))) || (spec_SameVolumes y_9.1 y_10.1).isSome) <|
    ck (!(!(((((((!(y_4.2 == y_5.2)) || (!((spec_SameVolumes y_4.1 y_5.1).getD default))) || (!(y_7.2 == y_8.2))) || (!((spec_SameVolumes y_7.1 y_8.1).getD default))) || (!(y_9.2 == y_10.2))) || (!((spec_SameVolumes y_9.1 y_10.1).getD default))) || (!(y_12.2 == y_13.2)))) || (laws_f6ints y_12.1 y_13.1).isSome) <|
    ck (!(!(((((((((!(y_4.2 == y_5.2)) || (!((spec_SameVolumes y_4.1 y_5.1).getD default))) || (!(y_7.2 == y_8.2))) || (!((spec_SameVolumes y_7.1 y_8.1).getD default))) || (!(y_9.2 == y_10.2))) || (!((spec_SameVolumes y_9.1 y_10.1).getD default))) || (!(y_12.2 == y_13.2))) || (!((laws_f6ints y_12.1 y_13.1).getD default))) || (!(y_15.2 == y_16.2)))) || (laws_f6ints y_15.1 y_16.1).isSome) <|
    ck (!(!((((((((((((!(y_4.2 == y_5.2)) || (!((spec_SameVolumes y_4.1 y_5.1).getD default))) || (!(y_7.2 == y_8.2))) || (!((spec_SameVolumes y_7.1 y_8.1).getD default))) || (!(y_9.2 == y_10.2))) || (!((spec_SameVolumes y_9.1 y_10.1).getD default))) || (!(y_12.2 == y_13.2))) || (!((laws_f6ints y_12.1 y_13.1).getD default))) || (!(y_15.2 == y_16.2))) || (!((laws_f6ints y_15.1 y_16.1).getD default))) || (!(y_18.2 == y_19.2))) || (!((y_18.1.Name == y_19.1.Name) && ((y_18.1.From == y_19.1.From) && ((y_18.1.To == y_19.1.To) && ((y_18.1.Count == y_19.1.Count) && (y_18.1.Copies == y_19.1.Copies)))))))) || (impl_SameVolumes y_20.1 y_20.2).isSome) <|
    ck (!(!((((((((((((!(y_4.2 == y_5.2)) || (!((spec_SameVolumes y_4.1 y_5.1).getD default))) || (!(y_7.2 == y_8.2))) || (!((spec_SameVolumes y_7.1 y_8.1).getD default))) || (!(y_9.2 == y_10.2))) || (!((spec_SameVolumes y_9.1 y_10.1).getD default))) || (!(y_12.2 == y_13.2))) || (!((laws_f6ints y_12.1 y_13.1).getD default))) || (!(y_15.2 == y_16.2))) || (!((laws_f6ints y_15.1 y_16.1).getD default))) || (!(y_18.2 == y_19.2))) || (!((y_18.1.Name == y_19.1.Name) && ((y_18.1.From == y_19.1.From) && ((y_18.1.To == y_19.1.To) && ((y_18.1.Count == y_19.1.Count) && (y_18.1.Copies == y_19.1.Copies)))))))) || (spec_SameVolumes y_20.1 y_20.2).isSome) <|
    ck (!(!(((((((((((((!(y_4.2 == y_5.2)) || (!((spec_SameVolumes y_4.1 y_5.1).getD default))) || (!(y_7.2 == y_8.2))) || (!((spec_SameVolumes y_7.1 y_8.1).getD default))) || (!(y_9.2 == y_10.2))) || (!((spec_SameVolumes y_9.1 y_10.1).getD default))) || (!(y_12.2 == y_13.2))) || (!((laws_f6ints y_12.1 y_13.1).getD default))) || (!(y_15.2 == y_16.2))) || (!((laws_f6ints y_15.1 y_16.1).getD default))) || (!(y_18.2 == y_19.2))) || (!((y_18.1.Name == y_19.1.Name) && ((y_18.1.From == y_19.1.From) && ((y_18.1.To == y_19.1.To) && ((y_18.1.Count == y_19.1.Count) && (y_18.1.Copies == y_19.1.Copies))))))) || (!(((impl_SameVolumes y_20.1 y_20.2).getD default) == ((spec_SameVolumes y_20.1 y_20.2).getD default))))) || (impl_ValidVolumes y_3.1).isSome) <|
    ck (!(!(((((((((((((!(y_4.2 == y_5.2)) || (!((spec_SameVolumes y_4.1 y_5.1).getD default))) || (!(y_7.2 == y_8.2))) || (!((spec_SameVolumes y_7.1 y_8.1).getD default))) || (!(y_9.2 == y_10.2))) || (!((spec_SameVolumes y_9.1 y_10.1).getD default))) || (!(y_12.2 == y_13.2))) || (!((laws_f6ints y_12.1 y_13.1).getD default))) || (!(y_15.2 == y_16.2))) || (!((laws_f6ints y_15.1 y_16.1).getD default))) || (!(y_18.2 == y_19.2))) || (!((y_18.1.Name == y_19.1.Name) && ((y_18.1.From == y_19.1.From) && ((y_18.1.To == y_19.1.To) && ((y_18.1.Count == y_19.1.Count) && (y_18.1.Copies == y_19.1.Copies))))))) || (!(((impl_SameVolumes y_20.1 y_20.2).getD default) == ((spec_SameVolumes y_20.1 y_20.2).getD default))))) || (spec_ValidVolumes y_3.1).isSome) <|
    ck (!(!((((((((((((((!(y_4.2 == y_5.2)) || (!((spec_SameVolumes y_4.1 y_5.1).getD default))) || (!(y_7.2 == y_8.2))) || (!((spec_SameVolumes y_7.1 y_8.1).getD default))) || (!(y_9.2 == y_10.2))) || (!((spec_SameVolumes y_9.1 y_10.1).getD default))) || (!(y_12.2 == y_13.2))) || (!((laws_f6ints y_12.1 y_13.1).getD default))) || (!(y_15.2 == y_16.2))) || (!((laws_f6ints y_15.1 y_16.1).getD default))) || (!(y_18.2 == y_19.2))) || (!((y_18.1.Name == y_19.1.Name) && ((y_18.1.From == y_19.1.From) && ((y_18.1.To == y_19.1.To) && ((y_18.1.Count == y_19.1.Count) && (y_18.1.Copies == y_19.1.Copies))))))) || (!(((impl_SameVolumes y_20.1 y_20.2).getD default) == ((spec_SameVolumes y_20.1 y_20.2).getD default)))) || (!(((impl_ValidVolumes y_3.1).getD default) == ((spec_ValidVolumes y_3.1).getD default))))) || (impl_ArchiveSummary y_21).isSome) <|
    ck (!(!((((((((((((((!(y_4.2 == y_5.2)) || (!((spec_SameVolumes y_4.1 y_5.1).getD default))) || (!(y_7.2 == y_8.2))) || (!((spec_SameVolumes y_7.1 y_8.1).getD default))) || (!(y_9.2 == y_10.2))) || (!((spec_SameVolumes y_9.1 y_10.1).getD default))) || (!(y_12.2 == y_13.2))) || (!((laws_f6ints y_12.1 y_13.1).getD default))) || (!(y_15.2 == y_16.2))) || (!((laws_f6ints y_15.1 y_16.1).getD default))) || (!(y_18.2 == y_19.2))) || (!((y_18.1.Name == y_19.1.Name) && ((y_18.1.From == y_19.1.From) && ((y_18.1.To == y_19.1.To) && ((y_18.1.Count == y_19.1.Count) && (y_18.1.Copies == y_19.1.Copies))))))) || (!(((impl_SameVolumes y_20.1 y_20.2).getD default) == ((spec_SameVolumes y_20.1 y_20.2).getD default)))) || (!(((impl_ValidVolumes y_3.1).getD default) == ((spec_ValidVolumes y_3.1).getD default))))) || (spec_ArchiveSummary y_21).isSome) <|
    if (((((((((((((((!(y_4.2 == y_5.2)) || (!((spec_SameVolumes y_4.1 y_5.1).getD default))) || (!(y_7.2 == y_8.2))) || (!((spec_SameVolumes y_7.1 y_8.1).getD default))) || (!(y_9.2 == y_10.2))) || (!((spec_SameVolumes y_9.1 y_10.1).getD default))) || (!(y_12.2 == y_13.2))) || (!((laws_f6ints y_12.1 y_13.1).getD default))) || (!(y_15.2 == y_16.2))) || (!((laws_f6ints y_15.1 y_16.1).getD default))) || (!(y_18.2 == y_19.2))) || (!((y_18.1.Name == y_19.1.Name) && ((y_18.1.From == y_19.1.From) && ((y_18.1.To == y_19.1.To) && ((y_18.1.Count == y_19.1.Count) && (y_18.1.Copies == y_19.1.Copies))))))) || (!(((impl_SameVolumes y_20.1 y_20.2).getD default) == ((spec_SameVolumes y_20.1 y_20.2).getD default)))) || (!(((impl_ValidVolumes y_3.1).getD default) == ((spec_ValidVolumes y_3.1).getD default)))) || (!(((impl_ArchiveSummary y_21).getD default) == ((spec_ArchiveSummary y_21).getD default)))) then
      some false
    else
      if (y_7.2 == 0) then
        (impl_LoseCopy y_8.1 y_6.2).bind fun y_35 =>
        ck (!(!(!(y_35.2 == 0))) || (spec_SameVolumes y_35.1 y_6.1).isSome) <|
        if ((!(y_35.2 == 0)) || (!((spec_SameVolumes y_35.1 y_6.1).getD default))) then
          some false
        else
          if (!(y_4.2 == 0)) then
            some true
          else
            (impl_VolumesAt y_4.1 y_3.2.From).bind fun y_39 =>
            if (!(y_39.2 == 0)) then
              some false
            else
              (whileE (laws_FnVolumes_l1 y_3.2 y_5.1 y_39.1) 0).bind fun y_45 =>
              match y_45 with
              | .inl y_45a =>
                some false
              | .inr y_45b =>
                some y_45b
      else
        if (!(y_4.2 == 0)) then
          some true
        else
          (impl_VolumesAt y_4.1 y_3.2.From).bind fun y_47 =>
          if (!(y_47.2 == 0)) then
            some false
          else
            (whileE (laws_FnVolumes_l2 y_3.2 y_5.1 y_47.1) 0).bind fun y_53 =>
            match y_53 with
            | .inl y_53a =>
              some false
            | .inr y_53b =>
              some y_53b

end Go.Proofs.YtdcmnpiafeigaaaGreatDoor
