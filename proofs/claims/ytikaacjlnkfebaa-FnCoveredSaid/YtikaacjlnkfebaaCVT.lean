/- Typed forms of the functions that CV reaches. No condition. -/
import Derived.Test.YtikaacjlnkfebaaEngSH
namespace Go.Proofs.Ytikaacjlnkfebaa
open Go Go.RowKit
set_option linter.unusedVariables false

structure Volume where
  Name : List UInt8
  From : Int
  To : Int
  Count : Int
  Copies : Int
  deriving Inhabited, DecidableEq
def Volume_av (x : Volume) : AV := .agg ([.str x.Name, .int .i64 x.From, .int .i64 x.To, .int .i64 x.Count, .int .i64 x.Copies])

structure L00Src where
  code_ : List UInt8
  at_ : Int
  seed_ : Int
  deriving Inhabited, DecidableEq
def L00Src_av (x : L00Src) : AV := .agg ([.sl 1 (List.map byteAV x.code_), .int .i64 x.at_, .int .u64 x.seed_])

structure Window where
  From : Int
  To : Int
  deriving Inhabited, DecidableEq
def Window_av (x : Window) : AV := .agg ([.int .i64 x.From, .int .i64 x.To])

attribute [go_sem] Volume_av L00Src_av Window_av

/-- laws.f6big -/
noncomputable def laws_f6big (code : List UInt8) : Option Bool :=
  some (decide (4096 < (code.length : Int)))

/-- spec.l00Max -/
noncomputable def spec_l00Max (a : Int) (b : Int) : Option Int :=
  if (decide (b < a)) then
    some a
  else
    some b

/-- spec.l00From -/
noncomputable def spec_l00From (code : List UInt8) : Option L00Src :=
  some (L00Src.mk code 0 0)

/-- (*spec.l00Src).next -/
noncomputable def spec_l00Src_next (s_ : L00Src) : Option (Int × L00Src) :=
  if (decide (s_.at_ < (s_.code_.length : Int))) then
    ck (ixOk s_.at_ s_.code_.length) <|
    if (decide ((IntKind.i64.wrap (s_.at_ + 1)) ≤ (s_.code_.length : Int))) then
      some (((s_.code_.getD s_.at_.toNat default).toNat : Int), (L00Src.mk s_.code_ (IntKind.i64.wrap (s_.at_ + 1)) (IntKind.u64.wrap ((IntKind.u64.wrap ((IntKind.u64.wrap (s_.seed_ * 6364136223846793005)) + (IntKind.u64.wrap ((s_.code_.getD s_.at_.toNat default).toNat : Int)))) + 1442695040888963407))))
    else
      ck (shOk 40) <|
      some ((IntKind.i64.wrap (IntKind.u64.wrap (BitVec.ofInt (IntKind.bits .u64) ((IntKind.u64.wrap ((IntKind.u64.wrap ((IntKind.u64.wrap (s_.seed_ * 6364136223846793005)) + (IntKind.u64.wrap ((s_.code_.getD s_.at_.toNat default).toNat : Int)))) + 1442695040888963407)).fdiv (2 ^ (min 40 64))) &&& BitVec.ofInt (IntKind.bits .u64) 255).toNat)), (L00Src.mk s_.code_ (IntKind.i64.wrap (s_.at_ + 1)) (IntKind.u64.wrap ((IntKind.u64.wrap ((IntKind.u64.wrap (s_.seed_ * 6364136223846793005)) + (IntKind.u64.wrap ((s_.code_.getD s_.at_.toNat default).toNat : Int)))) + 1442695040888963407))))
  else
    if (decide ((IntKind.i64.wrap (s_.at_ + 1)) ≤ (s_.code_.length : Int))) then
      some (0, (L00Src.mk s_.code_ (IntKind.i64.wrap (s_.at_ + 1)) (IntKind.u64.wrap ((IntKind.u64.wrap ((IntKind.u64.wrap (s_.seed_ * 6364136223846793005)) + (IntKind.u64.wrap 0))) + 1442695040888963407))))
    else
      ck (shOk 40) <|
      some ((IntKind.i64.wrap (IntKind.u64.wrap (BitVec.ofInt (IntKind.bits .u64) ((IntKind.u64.wrap ((IntKind.u64.wrap ((IntKind.u64.wrap (s_.seed_ * 6364136223846793005)) + (IntKind.u64.wrap 0))) + 1442695040888963407)).fdiv (2 ^ (min 40 64))) &&& BitVec.ofInt (IntKind.bits .u64) 255).toNat)), (L00Src.mk s_.code_ (IntKind.i64.wrap (s_.at_ + 1)) (IntKind.u64.wrap ((IntKind.u64.wrap ((IntKind.u64.wrap (s_.seed_ * 6364136223846793005)) + (IntKind.u64.wrap 0))) + 1442695040888963407))))

/-- (*spec.l00Src).pick -/
noncomputable def spec_l00Src_pick (s_ : L00Src) (n : Int) : Option (Int × L00Src) :=
  if (decide (n ≤ 1)) then
    some (0, s_)
  else
    (spec_l00Src_next s_).bind fun y_2 =>
    if (decide (200 < n)) then
      (spec_l00Src_next y_2.2).bind fun y_4 =>
      ck (nz n) <|
      some (((IntKind.i64.wrap ((IntKind.i64.wrap (y_2.1 * 256)) + y_4.1)).tmod n), y_4.2)
    else
      ck (nz n) <|
      some ((y_2.1.tmod n), y_2.2)

/-- (*spec.l00Src).one -/
noncomputable def spec_l00Src_one (s_ : L00Src) (n : Int) : Option (Bool × L00Src) :=
  (spec_l00Src_pick s_ n).bind fun y_1 =>
  some ((y_1.1 == 0), y_1.2)

/-- spec.l23New -/
noncomputable def spec_l23New (s_ : L00Src) (name : List UInt8) : Option (Volume × L00Src) :=
  (spec_l00Src_pick s_ 60).bind fun y_1 =>
  (spec_l00Src_pick y_1.2 30).bind fun y_2 =>
  (spec_l00Src_pick y_2.2 3).bind fun y_3 =>
  (spec_l00Src_pick y_3.2 200).bind fun y_4 =>
  (spec_l00Src_pick y_4.2 4).bind fun y_5 =>
  some ((Volume.mk name (IntKind.i64.wrap (10 * y_1.1)) (IntKind.i64.wrap ((IntKind.i64.wrap ((IntKind.i64.wrap (10 * y_1.1)) + (IntKind.i64.wrap (10 * y_2.1)))) + y_3.1)) (IntKind.i64.wrap (1 + y_4.1)) y_5.1), y_5.2)

/-- (*spec.l00Src).among -/
noncomputable def spec_l00Src_among (s_ : L00Src) (list : List Int) : Option (Int × L00Src) :=
  (spec_l00Src_pick s_ (list.length : Int)).bind fun y_1 =>
  ck (ixOk y_1.1 list.length) <|
  some ((list.getD y_1.1.toNat default), y_1.2)

/-- (*spec.l00Src).text -/
noncomputable def spec_l00Src_text (s_ : L00Src) (list : List (List UInt8)) : Option ((List UInt8) × L00Src) :=
  (spec_l00Src_pick s_ (list.length : Int)).bind fun y_1 =>
  ck (ixOk y_1.1 list.length) <|
  some ((list.getD y_1.1.toNat default), y_1.2)

/-- spec.l23Spoil -/
noncomputable def spec_l23Spoil_ix1 (s_ : L00Src) (x : List Volume) (x_ix : Int) : Option (L00Src × (List Volume)) :=
  ck (ixOk x_ix x.length) <|
  (spec_l00Src_pick s_ 5).bind fun y_2 =>
  if (y_2.1 == 0) then
    (spec_l00Src_text y_2.2 ([([] : List UInt8), ([65] : List UInt8), ([122, 122] : List UInt8)] : List (List UInt8))).bind fun y_4 =>
    ck ((x.set x_ix.toNat (Volume.mk y_4.1 ((x.getD x_ix.toNat default).From) ((x.getD x_ix.toNat default).To) ((x.getD x_ix.toNat default).Count) ((x.getD x_ix.toNat default).Copies))).length == x.length) <|
    some (y_4.2, (x.set x_ix.toNat (Volume.mk y_4.1 ((x.getD x_ix.toNat default).From) ((x.getD x_ix.toNat default).To) ((x.getD x_ix.toNat default).Count) ((x.getD x_ix.toNat default).Copies))))
  else
    if (y_2.1 == 1) then
      (spec_l00Src_among y_2.2 ([(-1), 0, (x.getD x_ix.toNat default).To, (IntKind.i64.wrap (((x.getD x_ix.toNat default).To) + 1))] : List Int)).bind fun y_7 =>
      ck ((x.set x_ix.toNat (Volume.mk ((x.getD x_ix.toNat default).Name) y_7.1 ((x.getD x_ix.toNat default).To) ((x.getD x_ix.toNat default).Count) ((x.getD x_ix.toNat default).Copies))).length == x.length) <|
      some (y_7.2, (x.set x_ix.toNat (Volume.mk ((x.getD x_ix.toNat default).Name) y_7.1 ((x.getD x_ix.toNat default).To) ((x.getD x_ix.toNat default).Count) ((x.getD x_ix.toNat default).Copies))))
    else
      if (y_2.1 == 2) then
        (spec_l00Src_among y_2.2 ([(-1), 10000000, 10000001] : List Int)).bind fun y_10 =>
        ck ((x.set x_ix.toNat (Volume.mk ((x.getD x_ix.toNat default).Name) ((x.getD x_ix.toNat default).From) y_10.1 ((x.getD x_ix.toNat default).Count) ((x.getD x_ix.toNat default).Copies))).length == x.length) <|
        some (y_10.2, (x.set x_ix.toNat (Volume.mk ((x.getD x_ix.toNat default).Name) ((x.getD x_ix.toNat default).From) y_10.1 ((x.getD x_ix.toNat default).Count) ((x.getD x_ix.toNat default).Copies))))
      else
        if (y_2.1 == 3) then
          (spec_l00Src_among y_2.2 ([0, 1, 1000000, 1000001, (-9223372036854775808)] : List Int)).bind fun y_13 =>
          ck ((x.set x_ix.toNat (Volume.mk ((x.getD x_ix.toNat default).Name) ((x.getD x_ix.toNat default).From) ((x.getD x_ix.toNat default).To) y_13.1 ((x.getD x_ix.toNat default).Copies))).length == x.length) <|
          some (y_13.2, (x.set x_ix.toNat (Volume.mk ((x.getD x_ix.toNat default).Name) ((x.getD x_ix.toNat default).From) ((x.getD x_ix.toNat default).To) y_13.1 ((x.getD x_ix.toNat default).Copies))))
        else
          if (y_2.1 == 4) then
            (spec_l00Src_among y_2.2 ([(-1), 0, 5, 6] : List Int)).bind fun y_16 =>
            ck ((x.set x_ix.toNat (Volume.mk ((x.getD x_ix.toNat default).Name) ((x.getD x_ix.toNat default).From) ((x.getD x_ix.toNat default).To) ((x.getD x_ix.toNat default).Count) y_16.1)).length == x.length) <|
            some (y_16.2, (x.set x_ix.toNat (Volume.mk ((x.getD x_ix.toNat default).Name) ((x.getD x_ix.toNat default).From) ((x.getD x_ix.toNat default).To) ((x.getD x_ix.toNat default).Count) y_16.1)))
          else
            some (y_2.2, x)

noncomputable def spec_l23Bent_l1 (names : List (List UInt8)) : (L00Src × (List Volume) × Int) → Option ((L00Src × (List Volume) × Int) ⊕ (L00Src × (List Volume)))
  | (s_, list, k) =>
    if (decide (k < (names.length : Int))) then
      (spec_l00Src_one s_ 3).bind fun y_2 =>
      if (!y_2.1) then
        ck (ixOk k names.length) <|
        (spec_l23New y_2.2 (names.getD k.toNat default)).bind fun y_5 =>
        ck (appOk (list.length + ([y_5.1] : List Volume).length) 48) <|
        some (.inl (y_5.2, (list ++ ([y_5.1] : List Volume)), (IntKind.i64.wrap (k + 1))))
      else
        some (.inl (y_2.2, list, (IntKind.i64.wrap (k + 1))))
    else
      some (.inr (s_, list))

noncomputable def spec_l23Bent_l2 (s_ : L00Src) : ((List Volume) × Int) → Option (((List Volume) × Int) ⊕ (List Volume))
  | (list, k) =>
    if (decide (0 < k)) then
      ck (nz 26) <|
      ck (catOk ([118] : List UInt8).length ([(toU8 (IntKind.u8.wrap (IntKind.i64.wrap (97 + (IntKind.i64.wrap ((list.length : Int).tdiv 26)))))), (toU8 (IntKind.u8.wrap (IntKind.i64.wrap (97 + ((list.length : Int).tmod 26)))))] : List UInt8).length) <|
      ck (appOk (list.length + ([(Volume.mk (([118] : List UInt8) ++ ([(toU8 (IntKind.u8.wrap (IntKind.i64.wrap (97 + (IntKind.i64.wrap ((list.length : Int).tdiv 26)))))), (toU8 (IntKind.u8.wrap (IntKind.i64.wrap (97 + ((list.length : Int).tmod 26)))))] : List UInt8)) (IntKind.i64.wrap (20 * (list.length : Int))) (IntKind.i64.wrap ((IntKind.i64.wrap (20 * (list.length : Int))) + 5)) 1 1)] : List Volume).length) 48) <|
      some (.inl ((list ++ ([(Volume.mk (([118] : List UInt8) ++ ([(toU8 (IntKind.u8.wrap (IntKind.i64.wrap (97 + (IntKind.i64.wrap ((list.length : Int).tdiv 26)))))), (toU8 (IntKind.u8.wrap (IntKind.i64.wrap (97 + ((list.length : Int).tmod 26)))))] : List UInt8)) (IntKind.i64.wrap (20 * (list.length : Int))) (IntKind.i64.wrap ((IntKind.i64.wrap (20 * (list.length : Int))) + 5)) 1 1)] : List Volume)), (IntKind.i64.wrap (k - 1))))
    else
      some (.inr list)

/-- spec.l23Bent -/
noncomputable def spec_l23Bent (s_ : L00Src) : Option ((List Volume) × L00Src) :=
  (whileE (spec_l23Bent_l1 ([([97] : List UInt8), ([98] : List UInt8), ([99, 45, 49] : List UInt8), ([100] : List UInt8), ([101] : List UInt8), ([102] : List UInt8), ([103] : List UInt8)] : List (List UInt8))) (s_, ([] : List Volume), 0)).bind fun y_7 =>
  (spec_l00Src_one y_7.1 20).bind fun y_8 =>
  if y_8.1 then
    (spec_l00Src_pick y_8.2 2).bind fun y_10 =>
    (whileE (spec_l23Bent_l2 y_10.2) (([] : List Volume), (IntKind.i64.wrap (40 + y_10.1)))).bind fun y_15 =>
    if (decide (0 < (y_15.length : Int))) then
      (spec_l00Src_one y_10.2 10).bind fun y_17 =>
      if ((decide (0 < (y_15.length : Int))) && y_17.1) then
        (spec_l00Src_pick y_17.2 (y_15.length : Int)).bind fun y_19 =>
        ck (ixOk y_19.1 y_15.length) <|
        (spec_l23Spoil_ix1 y_19.2 y_15 y_19.1).bind fun y_21 =>
        some (y_21.2, y_21.1)
      else
        some (y_15, y_17.2)
    else
      some (y_15, y_10.2)
  else
    if (decide (0 < (y_7.2.length : Int))) then
      (spec_l00Src_one y_8.2 10).bind fun y_23 =>
      if ((decide (0 < (y_7.2.length : Int))) && y_23.1) then
        (spec_l00Src_pick y_23.2 (y_7.2.length : Int)).bind fun y_25 =>
        ck (ixOk y_25.1 y_7.2.length) <|
        (spec_l23Spoil_ix1 y_25.2 y_7.2 y_25.1).bind fun y_27 =>
        some (y_27.2, y_27.1)
      else
        some (y_7.2, y_23.2)
    else
      some (y_7.2, y_8.2)

/-- spec.l23Window -/
noncomputable def spec_l23Window (code : List UInt8) : Option ((List Volume) × Int × Int) :=
  (spec_l00From code).bind fun y_1 =>
  (spec_l23Bent y_1).bind fun y_2 =>
  (spec_l00Src_pick y_2.2 60).bind fun y_3 =>
  (spec_l00Src_pick y_3.2 60).bind fun y_4 =>
  (spec_l00Src_pick y_4.2 16).bind fun y_5 =>
  if (y_5.1 == 0) then
    (spec_l00Src_among y_5.2 ([(-1), 0, (IntKind.i64.wrap ((IntKind.i64.wrap (10 * y_3.1)) + (IntKind.i64.wrap (10 * y_4.1)))), (IntKind.i64.wrap ((IntKind.i64.wrap ((IntKind.i64.wrap (10 * y_3.1)) + (IntKind.i64.wrap (10 * y_4.1)))) + 1))] : List Int)).bind fun y_7 =>
    some (y_2.1, y_7.1, (IntKind.i64.wrap ((IntKind.i64.wrap (10 * y_3.1)) + (IntKind.i64.wrap (10 * y_4.1)))))
  else
    if (y_5.1 == 1) then
      (spec_l00Src_among y_5.2 ([(IntKind.i64.wrap (10 * y_3.1)), 10000000, 10000001] : List Int)).bind fun y_9 =>
      some (y_2.1, (IntKind.i64.wrap (10 * y_3.1)), y_9.1)
    else
      some (y_2.1, (IntKind.i64.wrap (10 * y_3.1)), (IntKind.i64.wrap ((IntKind.i64.wrap (10 * y_3.1)) + (IntKind.i64.wrap (10 * y_4.1)))))

/-- spec.DrawCoverTime -/
noncomputable def spec_DrawCoverTime (code : List UInt8) : Option ((List Volume) × Int × Int) :=
  (spec_l23Window code).bind fun y_1 =>
  ck (!(decide (1 < (y_1.1.length : Int))) || ixOk 0 y_1.1.length) <|
  if ((decide (1 < (y_1.1.length : Int))) && (decide (((y_1.1.getD 0 default).From) ≤ ((y_1.1.getD 0 default).To)))) then
    (spec_l00From code).bind fun y_4 =>
    (spec_l00Src_one y_4 2).bind fun y_5 =>
    if y_5.1 then
      ck (ixOk 0 y_1.1.length) <|
      ck (ixOk 1 y_1.1.length) <|
      (spec_l00Max ((y_1.1.getD 0 default).To) ((y_1.1.getD 1 default).To)).bind fun y_9 =>
      some ((y_1.1.set 1 (Volume.mk ((y_1.1.getD 1 default).Name) ((y_1.1.getD 0 default).To) y_9 ((y_1.1.getD 1 default).Count) ((y_1.1.getD 1 default).Copies))), ((y_1.1.set 1 (Volume.mk ((y_1.1.getD 1 default).Name) ((y_1.1.getD 0 default).To) y_9 ((y_1.1.getD 1 default).Count) ((y_1.1.getD 1 default).Copies))).getD 0 default).From, y_9)
    else
      some (y_1.1, y_1.2.1, y_1.2.2)
  else
    some (y_1.1, y_1.2.1, y_1.2.2)

/-- impl.in -/
noncomputable def impl_in (n : Int) (low : Int) (high : Int) : Option Bool :=
  some ((decide (low ≤ n)) && (decide (n ≤ high)))

/-- impl.ValidTime -/
noncomputable def impl_ValidTime (t : Int) : Option Bool :=
  (impl_in t 0 10000000).bind fun y_1 =>
  some y_1

noncomputable def impl_IsName_l1 (s_ : List UInt8) (t15 : Int) : Int → Option (Int ⊕ (Unit ⊕ Bool))
  | t16 =>
    if (decide (t16 < t15)) then
      ck (ixOk t16 s_.length) <|
      if ((!((decide (97 ≤ ((s_.getD t16.toNat 0).toNat : Int))) && (decide (((s_.getD t16.toNat 0).toNat : Int) ≤ 122)))) && ((t16 == 0) || (!(((decide (48 ≤ ((s_.getD t16.toNat 0).toNat : Int))) && (decide (((s_.getD t16.toNat 0).toNat : Int) ≤ 57))) || (((s_.getD t16.toNat 0).toNat : Int) == 45))))) then
        some (.inr (.inr false))
      else
        some (.inl (IntKind.i64.wrap (t16 + 1)))
    else
      some (.inr (.inl ()))

/-- impl.IsName -/
noncomputable def impl_IsName (s_ : List UInt8) : Option Bool :=
  if ((decide ((s_.length : Int) < 1)) || (decide (12 < (s_.length : Int)))) then
    some false
  else
    (whileE (impl_IsName_l1 s_ (s_.length : Int)) 0).bind fun y_5 =>
    match y_5 with
    | .inl y_5a =>
      some true
    | .inr y_5b =>
      some y_5b

/-- impl.isVolume -/
noncomputable def impl_isVolume (x : Volume) : Option Bool :=
  (impl_ValidTime x.From).bind fun y_1 =>
  ck (!y_1 || (impl_ValidTime x.To).isSome) <|
  (impl_IsName x.Name).bind fun y_3 =>
  ck (!(y_3 && ((y_1 && ((impl_ValidTime x.To).getD default)) && (decide (x.From ≤ x.To)))) || (impl_in x.Count 1 1000000).isSome) <|
  ck (!((y_3 && ((y_1 && ((impl_ValidTime x.To).getD default)) && (decide (x.From ≤ x.To)))) && ((impl_in x.Count 1 1000000).getD default)) || (impl_in x.Copies 0 5).isSome) <|
  some (((y_3 && ((y_1 && ((impl_ValidTime x.To).getD default)) && (decide (x.From ≤ x.To)))) && ((impl_in x.Count 1 1000000).getD default)) && ((impl_in x.Copies 0 5).getD default))

/-- impl.volumeName -/
noncomputable def impl_volumeName (x : Volume) : Option (List UInt8) :=
  some x.Name

noncomputable def impl_rising_impl_Volume__impl_isVolume__impl_volumeName_l1 (list : List Volume) (t15 : List Volume) (t16 : Int) : Int → Option (Int ⊕ (Unit ⊕ Bool))
  | t17 =>
    if (decide (t17 < t16)) then
      ck (ixOk t17 t15.length) <|
      (impl_isVolume (t15.getD t17.toNat default)).bind fun y_4 =>
      ck (!((!(!y_4)) && (decide (0 < t17))) || ixOk (IntKind.i64.wrap (t17 - 1)) list.length) <|
      ck (!((!(!y_4)) && (decide (0 < t17))) || (impl_volumeName (list.getD (IntKind.i64.wrap (t17 - 1)).toNat default)).isSome) <|
      ck (!((!(!y_4)) && (decide (0 < t17))) || (impl_volumeName (t15.getD t17.toNat default)).isSome) <|
      if ((!y_4) || ((decide (0 < t17)) && (!(Op.bytesLess ((impl_volumeName (list.getD (IntKind.i64.wrap (t17 - 1)).toNat default)).getD default) ((impl_volumeName (t15.getD t17.toNat default)).getD default))))) then
        some (.inr (.inr false))
      else
        some (.inl (IntKind.i64.wrap (t17 + 1)))
    else
      some (.inr (.inl ()))

/-- impl.rising[impl.Volume] -/
noncomputable def impl_rising_impl_Volume__impl_isVolume__impl_volumeName (list : List Volume) (most : Int) : Option Bool :=
  if (decide (most < (list.length : Int))) then
    some false
  else
    (whileE (impl_rising_impl_Volume__impl_isVolume__impl_volumeName_l1 list list (list.length : Int)) 0).bind fun y_9 =>
    match y_9 with
    | .inl y_9a =>
      some true
    | .inr y_9b =>
      some y_9b

/-- impl.ValidVolumes -/
noncomputable def impl_ValidVolumes (list : List Volume) : Option Bool :=
  (impl_rising_impl_Volume__impl_isVolume__impl_volumeName list 40).bind fun y_1 =>
  some y_1

/-- impl.archived -/
noncomputable def impl_archived (list : List Volume) (from_ : Int) (to_ : Int) : Option Int :=
  (impl_ValidVolumes list).bind fun y_1 =>
  if (!y_1) then
    some 1
  else
    (impl_ValidTime from_).bind fun y_3 =>
    ck (!(!(!y_3)) || (impl_ValidTime to_).isSome) <|
    if (((!y_3) || (!((impl_ValidTime to_).getD default))) || (decide (to_ < from_))) then
      some 2
    else
      some 0

noncomputable def impl_CoverTime_l2 (list : List Volume) (to_ : Int) (out : List Int) (t : Int) (t26 : List Volume) (t27 : Int) : (Int × Int) → Option ((Int × Int) ⊕ Int)
  | (best, t28) =>
    if (decide (t28 < t27)) then
      ck (ixOk t28 t26.length) <|
      ck (!(decide (0 < ((t26.getD t28.toNat default).Copies))) || (impl_in t ((t26.getD t28.toNat default).From) ((t26.getD t28.toNat default).To)).isSome) <|
      ck (!(((decide (0 < ((t26.getD t28.toNat default).Copies))) && ((impl_in t ((t26.getD t28.toNat default).From) ((t26.getD t28.toNat default).To)).getD default)) && !(decide (best < 0))) || ixOk best list.length) <|
      if (((decide (0 < ((t26.getD t28.toNat default).Copies))) && ((impl_in t ((t26.getD t28.toNat default).From) ((t26.getD t28.toNat default).To)).getD default)) && ((decide (best < 0)) || (decide (((list.getD best.toNat default).To) < ((t26.getD t28.toNat default).To))))) then
        some (.inl (t28, (IntKind.i64.wrap (t28 + 1))))
      else
        some (.inl (best, (IntKind.i64.wrap (t28 + 1))))
    else
      some (.inr best)

noncomputable def impl_CoverTime_l1 (list : List Volume) (to_ : Int) : ((List Int) × Int) → Option (((List Int) × Int) ⊕ ((List Int) ⊕ ((List Int) × Int)))
  | (out, t) =>
    if (decide (t ≤ to_)) then
      (whileE (impl_CoverTime_l2 list to_ out t list (list.length : Int)) ((-1), 0)).bind fun y_9 =>
      if (decide (y_9 < 0)) then
        some (.inr (.inr (([] : List Int), 3)))
      else
        ck (appOk (out.length + ([y_9] : List Int).length) 8) <|
        ck (ixOk y_9 list.length) <|
        some (.inl ((out ++ ([y_9] : List Int)), (IntKind.i64.wrap (((list.getD y_9.toNat default).To) + 1))))
    else
      some (.inr (.inl out))

/-- impl.CoverTime -/
noncomputable def impl_CoverTime (list : List Volume) (from_ : Int) (to_ : Int) : Option ((List Int) × Int) :=
  (impl_archived list from_ to_).bind fun y_1 =>
  if (!(y_1 == 0)) then
    some (([] : List Int), y_1)
  else
    (whileE (impl_CoverTime_l1 list to_) (([] : List Int), from_)).bind fun y_13 =>
    match y_13 with
    | .inl y_13a =>
      some (y_13a, 0)
    | .inr y_13b =>
      some (y_13b.1, y_13b.2)

/-- spec.l01Small -/
noncomputable def spec_l01Small (c : UInt8) : Option Bool :=
  some ((decide (97 ≤ (c.toNat : Int))) && (decide ((c.toNat : Int) ≤ 122)))

/-- spec.l01Digit -/
noncomputable def spec_l01Digit (c : UInt8) : Option Bool :=
  some ((decide (48 ≤ (c.toNat : Int))) && (decide ((c.toNat : Int) ≤ 57)))

noncomputable def spec_IsName_l1 (s_ : List UInt8) : Int → Option (Int ⊕ (Unit ⊕ Bool))
  | i =>
    if (decide (i < (s_.length : Int))) then
      ck (ixOk i s_.length) <|
      (spec_l01Small (s_.getD i.toNat 0)).bind fun y_6 =>
      ck (!(!y_6) || (spec_l01Digit (s_.getD i.toNat 0)).isSome) <|
      if (((!y_6) && (!((spec_l01Digit (s_.getD i.toNat 0)).getD default))) && (!(((s_.getD i.toNat 0).toNat : Int) == 45))) then
        some (.inr (.inr false))
      else
        some (.inl (IntKind.i64.wrap (i + 1)))
    else
      some (.inr (.inl ()))

/-- spec.IsName -/
noncomputable def spec_IsName (s_ : List UInt8) : Option Bool :=
  ck (!(!((s_ == ([] : List UInt8)) || (decide (12 < (s_.length : Int))))) || ixOk 0 s_.length) <|
  ck (!(!((s_ == ([] : List UInt8)) || (decide (12 < (s_.length : Int))))) || (spec_l01Small (s_.getD 0 0)).isSome) <|
  if (((s_ == ([] : List UInt8)) || (decide (12 < (s_.length : Int)))) || (!((spec_l01Small (s_.getD 0 0)).getD default))) then
    some false
  else
    (whileE (spec_IsName_l1 s_) 0).bind fun y_9 =>
    match y_9 with
    | .inl y_9a =>
      some true
    | .inr y_9b =>
      some y_9b

/-- spec.l00In -/
noncomputable def spec_l00In (n : Int) (low : Int) (high : Int) : Option Bool :=
  some ((decide (low ≤ n)) && (decide (n ≤ high)))

/-- spec.l03Time -/
noncomputable def spec_l03Time (t : Int) : Option Bool :=
  (spec_l00In t 0 10000000).bind fun y_1 =>
  some y_1

/-- spec.l23One -/
noncomputable def spec_l23One (x : Volume) : Option Bool :=
  (spec_IsName x.Name).bind fun y_1 =>
  ck (!y_1 || (spec_l03Time x.From).isSome) <|
  ck (!(y_1 && ((spec_l03Time x.From).getD default)) || (spec_l00In x.To x.From 10000000).isSome) <|
  ck (!((y_1 && ((spec_l03Time x.From).getD default)) && ((spec_l00In x.To x.From 10000000).getD default)) || (spec_l00In x.Count 1 1000000).isSome) <|
  ck (!(((y_1 && ((spec_l03Time x.From).getD default)) && ((spec_l00In x.To x.From 10000000).getD default)) && ((spec_l00In x.Count 1 1000000).getD default)) || (spec_l00In x.Copies 0 5).isSome) <|
  some ((((y_1 && ((spec_l03Time x.From).getD default)) && ((spec_l00In x.To x.From 10000000).getD default)) && ((spec_l00In x.Count 1 1000000).getD default)) && ((spec_l00In x.Copies 0 5).getD default))

noncomputable def spec_l23Ok_l1 (list : List Volume) : Int → Option (Int ⊕ (Unit ⊕ Bool))
  | i =>
    if (decide (i < (list.length : Int))) then
      ck (ixOk i list.length) <|
      (spec_l23One (list.getD i.toNat default)).bind fun y_3 =>
      ck (!((!(!y_3)) && (decide (0 < i))) || ixOk (IntKind.i64.wrap (i - 1)) list.length) <|
      if ((!y_3) || ((decide (0 < i)) && (!(Op.bytesLess ((list.getD (IntKind.i64.wrap (i - 1)).toNat default).Name) ((list.getD i.toNat default).Name))))) then
        some (.inr (.inr false))
      else
        some (.inl (IntKind.i64.wrap (i + 1)))
    else
      some (.inr (.inl ()))

/-- spec.l23Ok -/
noncomputable def spec_l23Ok (list : List Volume) : Option Bool :=
  (whileE (spec_l23Ok_l1 list) 0).bind fun y_6 =>
  match y_6 with
  | .inl y_6a =>
    some (decide ((list.length : Int) ≤ 40))
  | .inr y_6b =>
    some y_6b

/-- spec.l23Code -/
noncomputable def spec_l23Code (list : List Volume) (from_ : Int) (to_ : Int) : Option Int :=
  (spec_l23Ok list).bind fun y_1 =>
  if (!y_1) then
    some 1
  else
    (spec_l03Time from_).bind fun y_3 =>
    ck (!(!(!y_3)) || (spec_l03Time to_).isSome) <|
    if (((!y_3) || (!((spec_l03Time to_).getD default))) || (decide (to_ < from_))) then
      some 2
    else
      some 0

noncomputable def spec_l23Reach_l1 (list : List Volume) (t : Int) : (Int × Int) → Option ((Int × Int) ⊕ Int)
  | (best, i) =>
    if (decide (i < (list.length : Int))) then
      ck (ixOk i list.length) <|
      ck (!(decide (0 < ((list.getD i.toNat default).Copies))) || (spec_l00In t ((list.getD i.toNat default).From) ((list.getD i.toNat default).To)).isSome) <|
      ck (!(((decide (0 < ((list.getD i.toNat default).Copies))) && ((spec_l00In t ((list.getD i.toNat default).From) ((list.getD i.toNat default).To)).getD default)) && !(decide (best < 0))) || ixOk best list.length) <|
      if (((decide (0 < ((list.getD i.toNat default).Copies))) && ((spec_l00In t ((list.getD i.toNat default).From) ((list.getD i.toNat default).To)).getD default)) && ((decide (best < 0)) || (decide (((list.getD best.toNat default).To) < ((list.getD i.toNat default).To))))) then
        some (.inl (i, (IntKind.i64.wrap (i + 1))))
      else
        some (.inl (best, (IntKind.i64.wrap (i + 1))))
    else
      some (.inr best)

/-- spec.l23Reach -/
noncomputable def spec_l23Reach (list : List Volume) (t : Int) : Option Int :=
  (whileE (spec_l23Reach_l1 list t) ((-1), 0)).bind fun y_6 =>
  some y_6

noncomputable def spec_CoverTime_l1 (list : List Volume) (to_ : Int) : ((List Int) × Int) → Option (((List Int) × Int) ⊕ ((List Int) ⊕ ((List Int) × Int)))
  | (out, t) =>
    if (decide (t ≤ to_)) then
      (spec_l23Reach list t).bind fun y_4 =>
      if (decide (y_4 < 0)) then
        some (.inr (.inr (([] : List Int), 3)))
      else
        ck (appOk (out.length + ([y_4] : List Int).length) 8) <|
        ck (ixOk y_4 list.length) <|
        some (.inl ((out ++ ([y_4] : List Int)), (IntKind.i64.wrap (((list.getD y_4.toNat default).To) + 1))))
    else
      some (.inr (.inl out))

/-- spec.CoverTime -/
noncomputable def spec_CoverTime (list : List Volume) (from_ : Int) (to_ : Int) : Option ((List Int) × Int) :=
  (spec_l23Code list from_ to_).bind fun y_1 =>
  if (!(y_1 == 0)) then
    some (([] : List Int), y_1)
  else
    (whileE (spec_CoverTime_l1 list to_) (([] : List Int), from_)).bind fun y_8 =>
    match y_8 with
    | .inl y_8a =>
      some (y_8a, 0)
    | .inr y_8b =>
      some (y_8b.1, y_8b.2)

/-- slices.Values[[]impl.Window,impl.Window] -/
noncomputable def slices_Values_impl_Window_impl_Window (s_ : List Window) : Option (List Window) :=
  some s_


/-- cmp.isNaN[int64] -/
noncomputable def cmp_isNaN_int64 (x : Int) : Option Bool :=
  some (!(x == x))

/-- cmp.Compare[int64] -/
noncomputable def cmp_Compare_int64 (x : Int) (y : Int) : Option Int :=
  (cmp_isNaN_int64 x).bind fun y_1 =>
  (cmp_isNaN_int64 y).bind fun y_2 =>
  if y_1 then
    if y_2 then
      some 0
    else
      some (-1)
  else
    if y_2 then
      some 1
    else
      if (decide (x < y)) then
        some (-1)
      else
        if (decide (y < x)) then
          some 1
        else
          some 0

/-- impl.longest$1 -/
noncomputable def impl_longest_c1 (a : Window) (b : Window) : Option Int :=
  (cmp_Compare_int64 a.From b.From).bind fun y_1 =>
  some y_1

noncomputable def slices_insertionSortCmpFunc_impl_Window__impl_longest_c1_l2 (a : Int) (b : Int) (i : Int) : ((List Window) × Int) → Option (((List Window) × Int) ⊕ (List Window))
  | (data, j) =>
    ck (!(decide (a < j)) || ixOk j data.length) <|
    ck (!(decide (a < j)) || ixOk (IntKind.i64.wrap (j - 1)) data.length) <|
    ck (!(decide (a < j)) || (impl_longest_c1 (data.getD j.toNat default) (data.getD (IntKind.i64.wrap (j - 1)).toNat default)).isSome) <|
    if ((decide (a < j)) && (decide (((impl_longest_c1 (data.getD j.toNat default) (data.getD (IntKind.i64.wrap (j - 1)).toNat default)).getD default) < 0))) then
      ck (ixOk (IntKind.i64.wrap (j - 1)) data.length) <|
      ck (ixOk j data.length) <|
      some (.inl (((data.set j.toNat (data.getD (IntKind.i64.wrap (j - 1)).toNat default)).set ((IntKind.i64.wrap (j - 1)).toNat) (data.getD j.toNat default)), (IntKind.i64.wrap (j - 1))))
    else
      some (.inr data)

noncomputable def slices_insertionSortCmpFunc_impl_Window__impl_longest_c1_l1 (a : Int) (b : Int) : ((List Window) × Int) → Option (((List Window) × Int) ⊕ (List Window))
  | (data, i) =>
    if (decide (i < b)) then
      (whileE (slices_insertionSortCmpFunc_impl_Window__impl_longest_c1_l2 a b i) (data, i)).bind fun y_9 =>
      some (.inl (y_9, (IntKind.i64.wrap (i + 1))))
    else
      some (.inr data)

/-- slices.insertionSortCmpFunc[impl.Window] -/
noncomputable def slices_insertionSortCmpFunc_impl_Window__impl_longest_c1 (data : List Window) (a : Int) (b : Int) : Option (List Window) :=
  (whileE (slices_insertionSortCmpFunc_impl_Window__impl_longest_c1_l1 a b) (data, (IntKind.i64.wrap (a + 1)))).bind fun y_10 =>
  ck (y_10.length == data.length) <|
  some y_10

noncomputable def slices_swapRangeCmpFunc_impl_Window__impl_longest_c1_l1 (a : Int) (b : Int) (n : Int) : ((List Window) × Int) → Option (((List Window) × Int) ⊕ (List Window))
  | (data, i) =>
    if (decide (i < n)) then
      ck (ixOk (IntKind.i64.wrap (b + i)) data.length) <|
      ck (ixOk (IntKind.i64.wrap (a + i)) data.length) <|
      some (.inl (((data.set ((IntKind.i64.wrap (a + i)).toNat) (data.getD (IntKind.i64.wrap (b + i)).toNat default)).set ((IntKind.i64.wrap (b + i)).toNat) (data.getD (IntKind.i64.wrap (a + i)).toNat default)), (IntKind.i64.wrap (i + 1))))
    else
      some (.inr data)

/-- slices.swapRangeCmpFunc[impl.Window] -/
noncomputable def slices_swapRangeCmpFunc_impl_Window__impl_longest_c1 (data : List Window) (a : Int) (b : Int) (n : Int) : Option (List Window) :=
  (whileE (slices_swapRangeCmpFunc_impl_Window__impl_longest_c1_l1 a b n) (data, 0)).bind fun y_5 =>
  ck (y_5.length == data.length) <|
  some y_5

noncomputable def slices_rotateCmpFunc_impl_Window__impl_longest_c1_l1 (m : Int) : ((List Window) × Int × Int) → Option (((List Window) × Int × Int) ⊕ ((List Window) × Int))
  | (data, i, j) =>
    if (!(i == j)) then
      if (decide (j < i)) then
        (slices_swapRangeCmpFunc_impl_Window__impl_longest_c1 data (IntKind.i64.wrap (m - i)) m j).bind fun y_3 =>
        some (.inl (y_3, (IntKind.i64.wrap (i - j)), j))
      else
        (slices_swapRangeCmpFunc_impl_Window__impl_longest_c1 data (IntKind.i64.wrap (m - i)) (IntKind.i64.wrap ((IntKind.i64.wrap (m + j)) - i)) i).bind fun y_4 =>
        some (.inl (y_4, i, (IntKind.i64.wrap (j - i))))
    else
      some (.inr (data, i))

/-- slices.rotateCmpFunc[impl.Window] -/
noncomputable def slices_rotateCmpFunc_impl_Window__impl_longest_c1 (data : List Window) (a : Int) (m : Int) (b : Int) : Option (List Window) :=
  (whileE (slices_rotateCmpFunc_impl_Window__impl_longest_c1_l1 m) (data, (IntKind.i64.wrap (m - a)), (IntKind.i64.wrap (b - m)))).bind fun y_5 =>
  (slices_swapRangeCmpFunc_impl_Window__impl_longest_c1 y_5.1 (IntKind.i64.wrap (m - y_5.2)) m y_5.2).bind fun y_6 =>
  ck (y_6.length == data.length) <|
  some y_6

noncomputable def slices_symMergeCmpFunc_impl_Window__impl_longest_c1_l1 (data : List Window) (a : Int) : (Int × Int) → Option ((Int × Int) ⊕ Int)
  | (i, j) =>
    if (decide (i < j)) then
      ck (shOk 1) <|
      ck (ixOk (IntKind.i64.wrap ((IntKind.u64.wrap (IntKind.i64.wrap (i + j))).fdiv (2 ^ (min 1 64)))) data.length) <|
      ck (ixOk a data.length) <|
      (impl_longest_c1 (data.getD (IntKind.i64.wrap ((IntKind.u64.wrap (IntKind.i64.wrap (i + j))).fdiv (2 ^ (min 1 64)))).toNat default) (data.getD a.toNat default)).bind fun y_6 =>
      if (decide (y_6 < 0)) then
        some (.inl ((IntKind.i64.wrap ((IntKind.i64.wrap ((IntKind.u64.wrap (IntKind.i64.wrap (i + j))).fdiv (2 ^ (min 1 64)))) + 1)), j))
      else
        some (.inl (i, (IntKind.i64.wrap ((IntKind.u64.wrap (IntKind.i64.wrap (i + j))).fdiv (2 ^ (min 1 64))))))
    else
      some (.inr i)

noncomputable def slices_symMergeCmpFunc_impl_Window__impl_longest_c1_l2 (i : Int) : ((List Window) × Int) → Option (((List Window) × Int) ⊕ (List Window))
  | (data, k) =>
    if (decide (k < (IntKind.i64.wrap (i - 1)))) then
      ck (ixOk (IntKind.i64.wrap (k + 1)) data.length) <|
      ck (ixOk k data.length) <|
      some (.inl (((data.set k.toNat (data.getD (IntKind.i64.wrap (k + 1)).toNat default)).set ((IntKind.i64.wrap (k + 1)).toNat) (data.getD k.toNat default)), (IntKind.i64.wrap (k + 1))))
    else
      some (.inr data)

noncomputable def slices_symMergeCmpFunc_impl_Window__impl_longest_c1_l3 (data : List Window) (m : Int) : (Int × Int) → Option ((Int × Int) ⊕ Int)
  | (i, j) =>
    if (decide (i < j)) then
      ck (shOk 1) <|
      ck (ixOk m data.length) <|
      ck (ixOk (IntKind.i64.wrap ((IntKind.u64.wrap (IntKind.i64.wrap (i + j))).fdiv (2 ^ (min 1 64)))) data.length) <|
      (impl_longest_c1 (data.getD m.toNat default) (data.getD (IntKind.i64.wrap ((IntKind.u64.wrap (IntKind.i64.wrap (i + j))).fdiv (2 ^ (min 1 64)))).toNat default)).bind fun y_20 =>
      if (!(decide (y_20 < 0))) then
        some (.inl ((IntKind.i64.wrap ((IntKind.i64.wrap ((IntKind.u64.wrap (IntKind.i64.wrap (i + j))).fdiv (2 ^ (min 1 64)))) + 1)), j))
      else
        some (.inl (i, (IntKind.i64.wrap ((IntKind.u64.wrap (IntKind.i64.wrap (i + j))).fdiv (2 ^ (min 1 64))))))
    else
      some (.inr i)

noncomputable def slices_symMergeCmpFunc_impl_Window__impl_longest_c1_l4 (i : Int) : ((List Window) × Int) → Option (((List Window) × Int) ⊕ (List Window))
  | (data, k) =>
    if (decide (i < k)) then
      ck (ixOk (IntKind.i64.wrap (k - 1)) data.length) <|
      ck (ixOk k data.length) <|
      some (.inl (((data.set k.toNat (data.getD (IntKind.i64.wrap (k - 1)).toNat default)).set ((IntKind.i64.wrap (k - 1)).toNat) (data.getD k.toNat default)), (IntKind.i64.wrap (k - 1))))
    else
      some (.inr data)

noncomputable def slices_symMergeCmpFunc_impl_Window__impl_longest_c1_l5 (data : List Window) (a : Int) (m : Int) (b : Int) (mid : Int) (n : Int) (p : Int) : (Int × Int) → Option ((Int × Int) ⊕ Int)
  | (start, r) =>
    if (decide (start < r)) then
      ck (shOk 1) <|
      ck (ixOk (IntKind.i64.wrap (p - (IntKind.i64.wrap ((IntKind.u64.wrap (IntKind.i64.wrap (start + r))).fdiv (2 ^ (min 1 64)))))) data.length) <|
      ck (ixOk (IntKind.i64.wrap ((IntKind.u64.wrap (IntKind.i64.wrap (start + r))).fdiv (2 ^ (min 1 64)))) data.length) <|
      (impl_longest_c1 (data.getD (IntKind.i64.wrap (p - (IntKind.i64.wrap ((IntKind.u64.wrap (IntKind.i64.wrap (start + r))).fdiv (2 ^ (min 1 64)))))).toNat default) (data.getD (IntKind.i64.wrap ((IntKind.u64.wrap (IntKind.i64.wrap (start + r))).fdiv (2 ^ (min 1 64)))).toNat default)).bind fun y_35 =>
      if (!(decide (y_35 < 0))) then
        some (.inl ((IntKind.i64.wrap ((IntKind.i64.wrap ((IntKind.u64.wrap (IntKind.i64.wrap (start + r))).fdiv (2 ^ (min 1 64)))) + 1)), r))
      else
        some (.inl (start, (IntKind.i64.wrap ((IntKind.u64.wrap (IntKind.i64.wrap (start + r))).fdiv (2 ^ (min 1 64))))))
    else
      some (.inr start)

noncomputable def slices_symMergeCmpFunc_impl_Window__impl_longest_c1_l6 (data : List Window) (a : Int) (m : Int) (b : Int) (mid : Int) (n : Int) (p : Int) : (Int × Int) → Option ((Int × Int) ⊕ Int)
  | (start, r) =>
    if (decide (start < r)) then
      ck (shOk 1) <|
      ck (ixOk (IntKind.i64.wrap (p - (IntKind.i64.wrap ((IntKind.u64.wrap (IntKind.i64.wrap (start + r))).fdiv (2 ^ (min 1 64)))))) data.length) <|
      ck (ixOk (IntKind.i64.wrap ((IntKind.u64.wrap (IntKind.i64.wrap (start + r))).fdiv (2 ^ (min 1 64)))) data.length) <|
      (impl_longest_c1 (data.getD (IntKind.i64.wrap (p - (IntKind.i64.wrap ((IntKind.u64.wrap (IntKind.i64.wrap (start + r))).fdiv (2 ^ (min 1 64)))))).toNat default) (data.getD (IntKind.i64.wrap ((IntKind.u64.wrap (IntKind.i64.wrap (start + r))).fdiv (2 ^ (min 1 64)))).toNat default)).bind fun y_63 =>
      if (!(decide (y_63 < 0))) then
        some (.inl ((IntKind.i64.wrap ((IntKind.i64.wrap ((IntKind.u64.wrap (IntKind.i64.wrap (start + r))).fdiv (2 ^ (min 1 64)))) + 1)), r))
      else
        some (.inl (start, (IntKind.i64.wrap ((IntKind.u64.wrap (IntKind.i64.wrap (start + r))).fdiv (2 ^ (min 1 64))))))
    else
      some (.inr start)
/-- slices.symMergeCmpFunc[impl.Window], to a depth -/
noncomputable def slices_symMergeCmpFunc_impl_Window__impl_longest_c1_n : Nat → (List Window) → Int → Int → Int → Option (List Window)
  | 0, _, _, _, _ => none
  | n_ + 1, data, a, m, b =>
    if ((IntKind.i64.wrap (m - a)) == 1) then
      (whileE (slices_symMergeCmpFunc_impl_Window__impl_longest_c1_l1 data a) (m, b)).bind fun y_8 =>
      (whileE (slices_symMergeCmpFunc_impl_Window__impl_longest_c1_l2 y_8) (data, a)).bind fun y_13 =>
      ck (y_13.length == data.length) <|
      some y_13
    else
      if ((IntKind.i64.wrap (b - m)) == 1) then
        (whileE (slices_symMergeCmpFunc_impl_Window__impl_longest_c1_l3 data m) (a, m)).bind fun y_22 =>
        (whileE (slices_symMergeCmpFunc_impl_Window__impl_longest_c1_l4 y_22) (data, m)).bind fun y_27 =>
        ck (y_27.length == data.length) <|
        some y_27
      else
        ck (shOk 1) <|
        if (decide ((IntKind.i64.wrap ((IntKind.u64.wrap (IntKind.i64.wrap (a + b))).fdiv (2 ^ (min 1 64)))) < m)) then
          (whileE (slices_symMergeCmpFunc_impl_Window__impl_longest_c1_l5 data a m b (IntKind.i64.wrap ((IntKind.u64.wrap (IntKind.i64.wrap (a + b))).fdiv (2 ^ (min 1 64)))) (IntKind.i64.wrap ((IntKind.i64.wrap ((IntKind.u64.wrap (IntKind.i64.wrap (a + b))).fdiv (2 ^ (min 1 64)))) + m)) (IntKind.i64.wrap ((IntKind.i64.wrap ((IntKind.i64.wrap ((IntKind.u64.wrap (IntKind.i64.wrap (a + b))).fdiv (2 ^ (min 1 64)))) + m)) - 1))) ((IntKind.i64.wrap ((IntKind.i64.wrap ((IntKind.i64.wrap ((IntKind.u64.wrap (IntKind.i64.wrap (a + b))).fdiv (2 ^ (min 1 64)))) + m)) - b)), (IntKind.i64.wrap ((IntKind.u64.wrap (IntKind.i64.wrap (a + b))).fdiv (2 ^ (min 1 64)))))).bind fun y_37 =>
          if ((decide (y_37 < m)) && (decide (m < (IntKind.i64.wrap ((IntKind.i64.wrap ((IntKind.i64.wrap ((IntKind.u64.wrap (IntKind.i64.wrap (a + b))).fdiv (2 ^ (min 1 64)))) + m)) - y_37))))) then
            (slices_rotateCmpFunc_impl_Window__impl_longest_c1 data y_37 m (IntKind.i64.wrap ((IntKind.i64.wrap ((IntKind.i64.wrap ((IntKind.u64.wrap (IntKind.i64.wrap (a + b))).fdiv (2 ^ (min 1 64)))) + m)) - y_37))).bind fun y_39 =>
            if ((decide (a < y_37)) && (decide (y_37 < (IntKind.i64.wrap ((IntKind.u64.wrap (IntKind.i64.wrap (a + b))).fdiv (2 ^ (min 1 64))))))) then
              (slices_symMergeCmpFunc_impl_Window__impl_longest_c1_n n_ y_39 a y_37 (IntKind.i64.wrap ((IntKind.u64.wrap (IntKind.i64.wrap (a + b))).fdiv (2 ^ (min 1 64))))).bind fun y_41 =>
              if ((decide ((IntKind.i64.wrap ((IntKind.u64.wrap (IntKind.i64.wrap (a + b))).fdiv (2 ^ (min 1 64)))) < (IntKind.i64.wrap ((IntKind.i64.wrap ((IntKind.i64.wrap ((IntKind.u64.wrap (IntKind.i64.wrap (a + b))).fdiv (2 ^ (min 1 64)))) + m)) - y_37)))) && (decide ((IntKind.i64.wrap ((IntKind.i64.wrap ((IntKind.i64.wrap ((IntKind.u64.wrap (IntKind.i64.wrap (a + b))).fdiv (2 ^ (min 1 64)))) + m)) - y_37)) < b))) then
                (slices_symMergeCmpFunc_impl_Window__impl_longest_c1_n n_ y_41 (IntKind.i64.wrap ((IntKind.u64.wrap (IntKind.i64.wrap (a + b))).fdiv (2 ^ (min 1 64)))) (IntKind.i64.wrap ((IntKind.i64.wrap ((IntKind.i64.wrap ((IntKind.u64.wrap (IntKind.i64.wrap (a + b))).fdiv (2 ^ (min 1 64)))) + m)) - y_37)) b).bind fun y_43 =>
                ck (y_43.length == data.length) <|
                some y_43
              else
                ck (y_41.length == data.length) <|
                some y_41
            else
              if ((decide ((IntKind.i64.wrap ((IntKind.u64.wrap (IntKind.i64.wrap (a + b))).fdiv (2 ^ (min 1 64)))) < (IntKind.i64.wrap ((IntKind.i64.wrap ((IntKind.i64.wrap ((IntKind.u64.wrap (IntKind.i64.wrap (a + b))).fdiv (2 ^ (min 1 64)))) + m)) - y_37)))) && (decide ((IntKind.i64.wrap ((IntKind.i64.wrap ((IntKind.i64.wrap ((IntKind.u64.wrap (IntKind.i64.wrap (a + b))).fdiv (2 ^ (min 1 64)))) + m)) - y_37)) < b))) then
                (slices_symMergeCmpFunc_impl_Window__impl_longest_c1_n n_ y_39 (IntKind.i64.wrap ((IntKind.u64.wrap (IntKind.i64.wrap (a + b))).fdiv (2 ^ (min 1 64)))) (IntKind.i64.wrap ((IntKind.i64.wrap ((IntKind.i64.wrap ((IntKind.u64.wrap (IntKind.i64.wrap (a + b))).fdiv (2 ^ (min 1 64)))) + m)) - y_37)) b).bind fun y_47 =>
                ck (y_47.length == data.length) <|
                some y_47
              else
                ck (y_39.length == data.length) <|
                some y_39
          else
            if ((decide (a < y_37)) && (decide (y_37 < (IntKind.i64.wrap ((IntKind.u64.wrap (IntKind.i64.wrap (a + b))).fdiv (2 ^ (min 1 64))))))) then
              (slices_symMergeCmpFunc_impl_Window__impl_longest_c1_n n_ data a y_37 (IntKind.i64.wrap ((IntKind.u64.wrap (IntKind.i64.wrap (a + b))).fdiv (2 ^ (min 1 64))))).bind fun y_51 =>
              if ((decide ((IntKind.i64.wrap ((IntKind.u64.wrap (IntKind.i64.wrap (a + b))).fdiv (2 ^ (min 1 64)))) < (IntKind.i64.wrap ((IntKind.i64.wrap ((IntKind.i64.wrap ((IntKind.u64.wrap (IntKind.i64.wrap (a + b))).fdiv (2 ^ (min 1 64)))) + m)) - y_37)))) && (decide ((IntKind.i64.wrap ((IntKind.i64.wrap ((IntKind.i64.wrap ((IntKind.u64.wrap (IntKind.i64.wrap (a + b))).fdiv (2 ^ (min 1 64)))) + m)) - y_37)) < b))) then
                (slices_symMergeCmpFunc_impl_Window__impl_longest_c1_n n_ y_51 (IntKind.i64.wrap ((IntKind.u64.wrap (IntKind.i64.wrap (a + b))).fdiv (2 ^ (min 1 64)))) (IntKind.i64.wrap ((IntKind.i64.wrap ((IntKind.i64.wrap ((IntKind.u64.wrap (IntKind.i64.wrap (a + b))).fdiv (2 ^ (min 1 64)))) + m)) - y_37)) b).bind fun y_53 =>
                ck (y_53.length == data.length) <|
                some y_53
              else
                ck (y_51.length == data.length) <|
                some y_51
            else
              if ((decide ((IntKind.i64.wrap ((IntKind.u64.wrap (IntKind.i64.wrap (a + b))).fdiv (2 ^ (min 1 64)))) < (IntKind.i64.wrap ((IntKind.i64.wrap ((IntKind.i64.wrap ((IntKind.u64.wrap (IntKind.i64.wrap (a + b))).fdiv (2 ^ (min 1 64)))) + m)) - y_37)))) && (decide ((IntKind.i64.wrap ((IntKind.i64.wrap ((IntKind.i64.wrap ((IntKind.u64.wrap (IntKind.i64.wrap (a + b))).fdiv (2 ^ (min 1 64)))) + m)) - y_37)) < b))) then
                (slices_symMergeCmpFunc_impl_Window__impl_longest_c1_n n_ data (IntKind.i64.wrap ((IntKind.u64.wrap (IntKind.i64.wrap (a + b))).fdiv (2 ^ (min 1 64)))) (IntKind.i64.wrap ((IntKind.i64.wrap ((IntKind.i64.wrap ((IntKind.u64.wrap (IntKind.i64.wrap (a + b))).fdiv (2 ^ (min 1 64)))) + m)) - y_37)) b).bind fun y_57 =>
                ck (y_57.length == data.length) <|
                some y_57
              else
                some data
        else
          (whileE (slices_symMergeCmpFunc_impl_Window__impl_longest_c1_l6 data a m b (IntKind.i64.wrap ((IntKind.u64.wrap (IntKind.i64.wrap (a + b))).fdiv (2 ^ (min 1 64)))) (IntKind.i64.wrap ((IntKind.i64.wrap ((IntKind.u64.wrap (IntKind.i64.wrap (a + b))).fdiv (2 ^ (min 1 64)))) + m)) (IntKind.i64.wrap ((IntKind.i64.wrap ((IntKind.i64.wrap ((IntKind.u64.wrap (IntKind.i64.wrap (a + b))).fdiv (2 ^ (min 1 64)))) + m)) - 1))) (a, m)).bind fun y_65 =>
          if ((decide (y_65 < m)) && (decide (m < (IntKind.i64.wrap ((IntKind.i64.wrap ((IntKind.i64.wrap ((IntKind.u64.wrap (IntKind.i64.wrap (a + b))).fdiv (2 ^ (min 1 64)))) + m)) - y_65))))) then
            (slices_rotateCmpFunc_impl_Window__impl_longest_c1 data y_65 m (IntKind.i64.wrap ((IntKind.i64.wrap ((IntKind.i64.wrap ((IntKind.u64.wrap (IntKind.i64.wrap (a + b))).fdiv (2 ^ (min 1 64)))) + m)) - y_65))).bind fun y_67 =>
            if ((decide (a < y_65)) && (decide (y_65 < (IntKind.i64.wrap ((IntKind.u64.wrap (IntKind.i64.wrap (a + b))).fdiv (2 ^ (min 1 64))))))) then
              (slices_symMergeCmpFunc_impl_Window__impl_longest_c1_n n_ y_67 a y_65 (IntKind.i64.wrap ((IntKind.u64.wrap (IntKind.i64.wrap (a + b))).fdiv (2 ^ (min 1 64))))).bind fun y_69 =>
              if ((decide ((IntKind.i64.wrap ((IntKind.u64.wrap (IntKind.i64.wrap (a + b))).fdiv (2 ^ (min 1 64)))) < (IntKind.i64.wrap ((IntKind.i64.wrap ((IntKind.i64.wrap ((IntKind.u64.wrap (IntKind.i64.wrap (a + b))).fdiv (2 ^ (min 1 64)))) + m)) - y_65)))) && (decide ((IntKind.i64.wrap ((IntKind.i64.wrap ((IntKind.i64.wrap ((IntKind.u64.wrap (IntKind.i64.wrap (a + b))).fdiv (2 ^ (min 1 64)))) + m)) - y_65)) < b))) then
                (slices_symMergeCmpFunc_impl_Window__impl_longest_c1_n n_ y_69 (IntKind.i64.wrap ((IntKind.u64.wrap (IntKind.i64.wrap (a + b))).fdiv (2 ^ (min 1 64)))) (IntKind.i64.wrap ((IntKind.i64.wrap ((IntKind.i64.wrap ((IntKind.u64.wrap (IntKind.i64.wrap (a + b))).fdiv (2 ^ (min 1 64)))) + m)) - y_65)) b).bind fun y_71 =>
                ck (y_71.length == data.length) <|
                some y_71
              else
                ck (y_69.length == data.length) <|
                some y_69
            else
              if ((decide ((IntKind.i64.wrap ((IntKind.u64.wrap (IntKind.i64.wrap (a + b))).fdiv (2 ^ (min 1 64)))) < (IntKind.i64.wrap ((IntKind.i64.wrap ((IntKind.i64.wrap ((IntKind.u64.wrap (IntKind.i64.wrap (a + b))).fdiv (2 ^ (min 1 64)))) + m)) - y_65)))) && (decide ((IntKind.i64.wrap ((IntKind.i64.wrap ((IntKind.i64.wrap ((IntKind.u64.wrap (IntKind.i64.wrap (a + b))).fdiv (2 ^ (min 1 64)))) + m)) - y_65)) < b))) then
                (slices_symMergeCmpFunc_impl_Window__impl_longest_c1_n n_ y_67 (IntKind.i64.wrap ((IntKind.u64.wrap (IntKind.i64.wrap (a + b))).fdiv (2 ^ (min 1 64)))) (IntKind.i64.wrap ((IntKind.i64.wrap ((IntKind.i64.wrap ((IntKind.u64.wrap (IntKind.i64.wrap (a + b))).fdiv (2 ^ (min 1 64)))) + m)) - y_65)) b).bind fun y_75 =>
                ck (y_75.length == data.length) <|
                some y_75
              else
                ck (y_67.length == data.length) <|
                some y_67
          else
            if ((decide (a < y_65)) && (decide (y_65 < (IntKind.i64.wrap ((IntKind.u64.wrap (IntKind.i64.wrap (a + b))).fdiv (2 ^ (min 1 64))))))) then
              (slices_symMergeCmpFunc_impl_Window__impl_longest_c1_n n_ data a y_65 (IntKind.i64.wrap ((IntKind.u64.wrap (IntKind.i64.wrap (a + b))).fdiv (2 ^ (min 1 64))))).bind fun y_79 =>
              if ((decide ((IntKind.i64.wrap ((IntKind.u64.wrap (IntKind.i64.wrap (a + b))).fdiv (2 ^ (min 1 64)))) < (IntKind.i64.wrap ((IntKind.i64.wrap ((IntKind.i64.wrap ((IntKind.u64.wrap (IntKind.i64.wrap (a + b))).fdiv (2 ^ (min 1 64)))) + m)) - y_65)))) && (decide ((IntKind.i64.wrap ((IntKind.i64.wrap ((IntKind.i64.wrap ((IntKind.u64.wrap (IntKind.i64.wrap (a + b))).fdiv (2 ^ (min 1 64)))) + m)) - y_65)) < b))) then
                (slices_symMergeCmpFunc_impl_Window__impl_longest_c1_n n_ y_79 (IntKind.i64.wrap ((IntKind.u64.wrap (IntKind.i64.wrap (a + b))).fdiv (2 ^ (min 1 64)))) (IntKind.i64.wrap ((IntKind.i64.wrap ((IntKind.i64.wrap ((IntKind.u64.wrap (IntKind.i64.wrap (a + b))).fdiv (2 ^ (min 1 64)))) + m)) - y_65)) b).bind fun y_81 =>
                ck (y_81.length == data.length) <|
                some y_81
              else
                ck (y_79.length == data.length) <|
                some y_79
            else
              if ((decide ((IntKind.i64.wrap ((IntKind.u64.wrap (IntKind.i64.wrap (a + b))).fdiv (2 ^ (min 1 64)))) < (IntKind.i64.wrap ((IntKind.i64.wrap ((IntKind.i64.wrap ((IntKind.u64.wrap (IntKind.i64.wrap (a + b))).fdiv (2 ^ (min 1 64)))) + m)) - y_65)))) && (decide ((IntKind.i64.wrap ((IntKind.i64.wrap ((IntKind.i64.wrap ((IntKind.u64.wrap (IntKind.i64.wrap (a + b))).fdiv (2 ^ (min 1 64)))) + m)) - y_65)) < b))) then
                (slices_symMergeCmpFunc_impl_Window__impl_longest_c1_n n_ data (IntKind.i64.wrap ((IntKind.u64.wrap (IntKind.i64.wrap (a + b))).fdiv (2 ^ (min 1 64)))) (IntKind.i64.wrap ((IntKind.i64.wrap ((IntKind.i64.wrap ((IntKind.u64.wrap (IntKind.i64.wrap (a + b))).fdiv (2 ^ (min 1 64)))) + m)) - y_65)) b).bind fun y_85 =>
                ck (y_85.length == data.length) <|
                some y_85
              else
                some data
noncomputable def slices_symMergeCmpFunc_impl_Window__impl_longest_c1 (data : List Window) (a : Int) (m : Int) (b : Int) : Option (List Window) := slices_symMergeCmpFunc_impl_Window__impl_longest_c1_n 64 data a m b

noncomputable def slices_stableCmpFunc_impl_Window__impl_longest_c1_l1 (n : Int) (blockSize : Int) : ((List Window) × Int × Int) → Option (((List Window) × Int × Int) ⊕ ((List Window) × Int))
  | (data, a, b) =>
    if (decide (b ≤ n)) then
      (slices_insertionSortCmpFunc_impl_Window__impl_longest_c1 data a b).bind fun y_2 =>
      some (.inl (y_2, b, (IntKind.i64.wrap (b + blockSize))))
    else
      some (.inr (data, a))

noncomputable def slices_stableCmpFunc_impl_Window__impl_longest_c1_l3 (n : Int) (blockSize : Int) : ((List Window) × Int × Int) → Option (((List Window) × Int × Int) ⊕ ((List Window) × Int))
  | (data, a, b) =>
    if (decide (b ≤ n)) then
      (slices_symMergeCmpFunc_impl_Window__impl_longest_c1 data a (IntKind.i64.wrap (a + blockSize)) b).bind fun y_7 =>
      some (.inl (y_7, b, (IntKind.i64.wrap (b + (IntKind.i64.wrap (2 * blockSize))))))
    else
      some (.inr (data, a))

noncomputable def slices_stableCmpFunc_impl_Window__impl_longest_c1_l2 (n : Int) : ((List Window) × Int) → Option (((List Window) × Int) ⊕ (List Window))
  | (data, blockSize) =>
    if (decide (blockSize < n)) then
      (whileE (slices_stableCmpFunc_impl_Window__impl_longest_c1_l3 n blockSize) (data, 0, (IntKind.i64.wrap (2 * blockSize)))).bind fun y_8 =>
      if (decide ((IntKind.i64.wrap (y_8.2 + blockSize)) < n)) then
        (slices_symMergeCmpFunc_impl_Window__impl_longest_c1 y_8.1 y_8.2 (IntKind.i64.wrap (y_8.2 + blockSize)) n).bind fun y_10 =>
        some (.inl (y_10, (IntKind.i64.wrap (blockSize * 2))))
      else
        some (.inl (y_8.1, (IntKind.i64.wrap (blockSize * 2))))
    else
      some (.inr data)

/-- slices.stableCmpFunc[impl.Window] -/
noncomputable def slices_stableCmpFunc_impl_Window__impl_longest_c1 (data : List Window) (n : Int) : Option (List Window) :=
  (whileE (slices_stableCmpFunc_impl_Window__impl_longest_c1_l1 n 20) (data, 0, 20)).bind fun y_3 =>
  (slices_insertionSortCmpFunc_impl_Window__impl_longest_c1 y_3.1 y_3.2 n).bind fun y_4 =>
  (whileE (slices_stableCmpFunc_impl_Window__impl_longest_c1_l2 n) (y_4, 20)).bind fun y_11 =>
  ck (y_11.length == data.length) <|
  some y_11

/-- slices.SortStableFunc[[]impl.Window,impl.Window] -/
noncomputable def slices_SortStableFunc_impl_Window_impl_Window__impl_longest_c1 (x : List Window) : Option (List Window) :=
  (slices_stableCmpFunc_impl_Window__impl_longest_c1 x (x.length : Int)).bind fun y_1 =>
  ck (y_1.length == x.length) <|
  some y_1

/-- slices.SortedStableFunc[impl.Window] -/
noncomputable def slices_SortedStableFunc_impl_Window__slices_Values_impl_Window_impl_Window__c1__impl_longest_c1 (seq_c0 : List Window) : Option (List Window) :=
  (hCollect seq_c0).bind fun y_1 =>
  (slices_SortStableFunc_impl_Window_impl_Window__impl_longest_c1 y_1).bind fun y_2 =>
  some y_2

noncomputable def impl_longest_l1 (t11 : List Window) (t12 : Int) : ((List Window) × Int) → Option (((List Window) × Int) ⊕ (List Window))
  | (out, t13) =>
    if (decide (t13 < t12)) then
      ck (ixOk t13 t11.length) <|
      ck (!(decide (0 ≤ (IntKind.i64.wrap ((out.length : Int) - 1)))) || ixOk (IntKind.i64.wrap ((out.length : Int) - 1)) out.length) <|
      if ((decide (0 ≤ (IntKind.i64.wrap ((out.length : Int) - 1)))) && (decide (((t11.getD t13.toNat default).From) ≤ (IntKind.i64.wrap (((out.getD (IntKind.i64.wrap ((out.length : Int) - 1)).toNat default).To) + 1))))) then
        ck (ixOk (IntKind.i64.wrap ((out.length : Int) - 1)) out.length) <|
        some (.inl ((out.set ((IntKind.i64.wrap ((out.length : Int) - 1)).toNat) (Window.mk ((out.getD (IntKind.i64.wrap ((out.length : Int) - 1)).toNat default).From) (if ((out.getD (IntKind.i64.wrap ((out.length : Int) - 1)).toNat default).To) < ((t11.getD t13.toNat default).To) then ((t11.getD t13.toNat default).To) else ((out.getD (IntKind.i64.wrap ((out.length : Int) - 1)).toNat default).To)))), (IntKind.i64.wrap (t13 + 1))))
      else
        ck (appOk (out.length + ([(t11.getD t13.toNat default)] : List Window).length) 16) <|
        some (.inl ((out ++ ([(t11.getD t13.toNat default)] : List Window)), (IntKind.i64.wrap (t13 + 1))))
    else
      some (.inr out)

/-- impl.longest -/
noncomputable def impl_longest (list : List Window) : Option (List Window) :=
  (slices_Values_impl_Window_impl_Window list).bind fun y_1 =>
  (slices_SortedStableFunc_impl_Window__slices_Values_impl_Window_impl_Window__c1__impl_longest_c1 y_1).bind fun y_2 =>
  (whileE (impl_longest_l1 y_2 (y_2.length : Int)) (([] : List Window), 0)).bind fun y_9 =>
  some y_9

noncomputable def impl_meet_l2 (b : List Window) (x : Window) (t13 : List Window) (t14 : Int) (t15 : Int) (t19 : List Window) (t20 : Int) : ((List Window) × Int) → Option (((List Window) × Int) ⊕ (List Window))
  | (out, t21) =>
    if (decide (t21 < t20)) then
      ck (ixOk t21 t19.length) <|
      if (decide ((if x.From < ((t19.getD t21.toNat default).From) then ((t19.getD t21.toNat default).From) else x.From) ≤ (if ((t19.getD t21.toNat default).To) < x.To then ((t19.getD t21.toNat default).To) else x.To))) then
        ck (appOk (out.length + ([(Window.mk (if x.From < ((t19.getD t21.toNat default).From) then ((t19.getD t21.toNat default).From) else x.From) (if ((t19.getD t21.toNat default).To) < x.To then ((t19.getD t21.toNat default).To) else x.To))] : List Window).length) 16) <|
        some (.inl ((out ++ ([(Window.mk (if x.From < ((t19.getD t21.toNat default).From) then ((t19.getD t21.toNat default).From) else x.From) (if ((t19.getD t21.toNat default).To) < x.To then ((t19.getD t21.toNat default).To) else x.To))] : List Window)), (IntKind.i64.wrap (t21 + 1))))
      else
        some (.inl (out, (IntKind.i64.wrap (t21 + 1))))
    else
      some (.inr out)

noncomputable def impl_meet_l1 (b : List Window) (t13 : List Window) (t14 : Int) : ((List Window) × Int) → Option (((List Window) × Int) ⊕ (List Window))
  | (out, t15) =>
    if (decide (t15 < t14)) then
      ck (ixOk t15 t13.length) <|
      (whileE (impl_meet_l2 b (t13.getD t15.toNat default) t13 t14 t15 b (b.length : Int)) (out, 0)).bind fun y_7 =>
      some (.inl (y_7, (IntKind.i64.wrap (t15 + 1))))
    else
      some (.inr out)

/-- impl.meet -/
noncomputable def impl_meet (a : List Window) (b : List Window) : Option (List Window) :=
  (whileE (impl_meet_l1 b a (a.length : Int)) (([] : List Window), 0)).bind fun y_8 =>
  (impl_longest y_8).bind fun y_9 =>
  some y_9

noncomputable def impl_without_l1 (a : List Window) (t11 : List Window) (t12 : Int) : ((List Window) × Int × Int) → Option (((List Window) × Int × Int) ⊕ ((List Window) × Int))
  | (rest_, from_, t13) =>
    if (decide (t13 < t12)) then
      ck (ixOk t13 t11.length) <|
      if (decide (from_ < ((t11.getD t13.toNat default).From))) then
        ck (appOk (rest_.length + ([(Window.mk from_ (IntKind.i64.wrap (((t11.getD t13.toNat default).From) - 1)))] : List Window).length) 16) <|
        some (.inl ((rest_ ++ ([(Window.mk from_ (IntKind.i64.wrap (((t11.getD t13.toNat default).From) - 1)))] : List Window)), (IntKind.i64.wrap (((t11.getD t13.toNat default).To) + 1)), (IntKind.i64.wrap (t13 + 1))))
      else
        some (.inl (rest_, (IntKind.i64.wrap (((t11.getD t13.toNat default).To) + 1)), (IntKind.i64.wrap (t13 + 1))))
    else
      some (.inr (rest_, from_))

/-- impl.without -/
noncomputable def impl_without (a : List Window) (b : List Window) : Option (List Window) :=
  (impl_longest b).bind fun y_1 =>
  (whileE (impl_without_l1 a y_1 (y_1.length : Int)) (([] : List Window), 0, 0)).bind fun y_6 =>
  if (decide (y_6.2 ≤ 10000000)) then
    ck (appOk (y_6.1.length + ([(Window.mk y_6.2 10000000)] : List Window).length) 16) <|
    (impl_meet a (y_6.1 ++ ([(Window.mk y_6.2 10000000)] : List Window))).bind fun y_9 =>
    some y_9
  else
    (impl_meet a y_6.1).bind fun y_10 =>
    some y_10

/-- impl.fewWindows -/
noncomputable def impl_fewWindows (list : List Window) : Option ((List Window) × Int) :=
  if (decide (30 < (list.length : Int))) then
    some (([] : List Window), 5)
  else
    some (list, 0)

noncomputable def impl_GapsOfArchive_l1 (from_ : Int) (to_ : Int) (t20 : List Volume) (t21 : Int) : ((List Window) × Int) → Option (((List Window) × Int) ⊕ (List Window))
  | (have_, t22) =>
    if (decide (t22 < t21)) then
      ck (ixOk t22 t20.length) <|
      if (decide (0 < ((t20.getD t22.toNat default).Copies))) then
        ck (appOk (have_.length + ([(Window.mk ((t20.getD t22.toNat default).From) ((t20.getD t22.toNat default).To))] : List Window).length) 16) <|
        some (.inl ((have_ ++ ([(Window.mk ((t20.getD t22.toNat default).From) ((t20.getD t22.toNat default).To))] : List Window)), (IntKind.i64.wrap (t22 + 1))))
      else
        some (.inl (have_, (IntKind.i64.wrap (t22 + 1))))
    else
      some (.inr have_)

/-- impl.GapsOfArchive -/
noncomputable def impl_GapsOfArchive (list : List Volume) (from_ : Int) (to_ : Int) : Option ((List Window) × Int) :=
  (impl_archived list from_ to_).bind fun y_1 =>
  if (!(y_1 == 0)) then
    some (([] : List Window), y_1)
  else
    (whileE (impl_GapsOfArchive_l1 from_ to_ list (list.length : Int)) (([] : List Window), 0)).bind fun y_7 =>
    (impl_without ([(Window.mk from_ to_)] : List Window) y_7).bind fun y_8 =>
    (impl_fewWindows y_8).bind fun y_9 =>
    some (y_9.1, y_9.2)

/-- spec.l00Min -/
noncomputable def spec_l00Min (a : Int) (b : Int) : Option Int :=
  if (decide (a < b)) then
    some a
  else
    some b

noncomputable def spec_GapsOfArchive_l2 (list : List Volume) (to_ : Int) (out : List Window) (t : Int) : (Int × Int) → Option ((Int × Int) ⊕ Int)
  | (next_, i) =>
    if (decide (i < (list.length : Int))) then
      ck (ixOk i list.length) <|
      if ((decide (0 < ((list.getD i.toNat default).Copies))) && (decide (t < ((list.getD i.toNat default).From)))) then
        (spec_l00Min next_ ((list.getD i.toNat default).From)).bind fun y_10 =>
        some (.inl (y_10, (IntKind.i64.wrap (i + 1))))
      else
        some (.inl (next_, (IntKind.i64.wrap (i + 1))))
    else
      some (.inr next_)

noncomputable def spec_GapsOfArchive_l1 (list : List Volume) (to_ : Int) : ((List Window) × Int) → Option (((List Window) × Int) ⊕ (List Window))
  | (out, t) =>
    if (decide (t ≤ to_)) then
      (spec_l23Reach list t).bind fun y_4 =>
      if (decide (0 ≤ y_4)) then
        ck (ixOk y_4 list.length) <|
        some (.inl (out, (IntKind.i64.wrap (((list.getD y_4.toNat default).To) + 1))))
      else
        (whileE (spec_GapsOfArchive_l2 list to_ out t) ((IntKind.i64.wrap (to_ + 1)), 0)).bind fun y_11 =>
        ck (appOk (out.length + ([(Window.mk t (IntKind.i64.wrap (y_11 - 1)))] : List Window).length) 16) <|
        some (.inl ((out ++ ([(Window.mk t (IntKind.i64.wrap (y_11 - 1)))] : List Window)), y_11))
    else
      some (.inr out)

/-- spec.GapsOfArchive -/
noncomputable def spec_GapsOfArchive (list : List Volume) (from_ : Int) (to_ : Int) : Option ((List Window) × Int) :=
  (spec_l23Code list from_ to_).bind fun y_1 =>
  if (!(y_1 == 0)) then
    some (([] : List Window), y_1)
  else
    (whileE (spec_GapsOfArchive_l1 list to_) (([] : List Window), from_)).bind fun y_13 =>
    if (decide (30 < (y_13.length : Int))) then
      some (([] : List Window), 5)
    else
      some (y_13, 0)

/-- spec.DrawGapsOfArchive -/
noncomputable def spec_DrawGapsOfArchive (code : List UInt8) : Option ((List Volume) × Int × Int) :=
  (spec_l23Window code).bind fun y_1 =>
  some (y_1.1, y_1.2.1, y_1.2.2)

noncomputable def laws_f6ints_l1 (a : List Int) (b : List Int) : Int → Option (Int ⊕ (Unit ⊕ Bool))
  | i =>
    if (decide (i < (a.length : Int))) then
      ck (ixOk i a.length) <|
      ck (ixOk i b.length) <|
      if (!((a.getD i.toNat default) == (b.getD i.toNat default))) then
        some (.inr (.inr false))
      else
        some (.inl (IntKind.i64.wrap (i + 1)))
    else
      some (.inr (.inl ()))

/-- laws.f6ints -/
noncomputable def laws_f6ints (a : List Int) (b : List Int) : Option Bool :=
  if (!((a.length : Int) == (b.length : Int))) then
    some false
  else
    (whileE (laws_f6ints_l1 a b) 0).bind fun y_6 =>
    match y_6 with
    | .inl y_6a =>
      some true
    | .inr y_6b =>
      some y_6b

noncomputable def spec_l15Same_l1 (a : List Window) (b : List Window) : Int → Option (Int ⊕ (Unit ⊕ Bool))
  | i =>
    if (decide (i < (a.length : Int))) then
      ck (ixOk i a.length) <|
      ck (ixOk i b.length) <|
      if (!((((a.getD i.toNat default).From) == ((b.getD i.toNat default).From)) && (((a.getD i.toNat default).To) == ((b.getD i.toNat default).To)))) then
        some (.inr (.inr false))
      else
        some (.inl (IntKind.i64.wrap (i + 1)))
    else
      some (.inr (.inl ()))

/-- spec.l15Same -/
noncomputable def spec_l15Same (a : List Window) (b : List Window) : Option Bool :=
  if (!((a.length : Int) == (b.length : Int))) then
    some false
  else
    (whileE (spec_l15Same_l1 a b) 0).bind fun y_6 =>
    match y_6 with
    | .inl y_6a =>
      some true
    | .inr y_6b =>
      some y_6b

/-- spec.SameWindows -/
noncomputable def spec_SameWindows (a : List Window) (b : List Window) : Option Bool :=
  (spec_l15Same a b).bind fun y_1 =>
  some y_1

/-- impl.VolumesAt$1 -/
noncomputable def impl_VolumesAt_c1 (i : Int) (t1 : Int) (t2 : List Volume) : Option Bool :=
  ck (ixOk i t2.length) <|
  (impl_in t1 ((t2.getD i.toNat default).From) ((t2.getD i.toNat default).To)).bind fun y_2 =>
  some y_2

noncomputable def impl_indicesWhere__impl_VolumesAt_c1_l1 (c : Int) (c2 : List Volume) (t8 : Int) : ((List Int) × Int) → Option (((List Int) × Int) ⊕ (List Int))
  | (out, t9) =>
    if (decide (t9 < t8)) then
      (impl_VolumesAt_c1 t9 c c2).bind fun y_2 =>
      if y_2 then
        ck (appOk (out.length + ([t9] : List Int).length) 8) <|
        some (.inl ((out ++ ([t9] : List Int)), (IntKind.i64.wrap (t9 + 1))))
      else
        some (.inl (out, (IntKind.i64.wrap (t9 + 1))))
    else
      some (.inr out)

/-- impl.indicesWhere -/
noncomputable def impl_indicesWhere__impl_VolumesAt_c1 (n : Int) (wanted_c0 : Int) (wanted_c1 : List Volume) : Option (List Int) :=
  (whileE (impl_indicesWhere__impl_VolumesAt_c1_l1 wanted_c0 wanted_c1 n) (([] : List Int), 0)).bind fun y_5 =>
  some y_5

/-- impl.VolumesAt -/
noncomputable def impl_VolumesAt (list : List Volume) (t : Int) : Option ((List Int) × Int) :=
  (impl_ValidVolumes list).bind fun y_1 =>
  if (!y_1) then
    some (([] : List Int), 1)
  else
    (impl_ValidTime t).bind fun y_3 =>
    if (!y_3) then
      some (([] : List Int), 2)
    else
      (impl_indicesWhere__impl_VolumesAt_c1 (list.length : Int) t list).bind fun y_5 =>
      some (y_5, 0)

noncomputable def laws_FnCovered_l2 (list : List Volume) (from_ : Int) (to_ : Int) (bad : Int) (model : List Int) (one : Int) (open_ : List Window) (a : List Volume) (b : Int) (c : Int) (right_ : List Window) (i : Int) (in_ : List Int) : Int → Option (Int ⊕ (Unit ⊕ Bool))
  | k =>
    if (decide (k < (in_.length : Int))) then
      ck (ixOk k in_.length) <|
      ck (!(!((decide ((in_.getD k.toNat default) < 0)) || (decide ((a.length : Int) ≤ (in_.getD k.toNat default))))) || ixOk (in_.getD k.toNat default) a.length) <|
      if (((decide ((in_.getD k.toNat default) < 0)) || (decide ((a.length : Int) ≤ (in_.getD k.toNat default)))) || (decide (0 < ((a.getD (in_.getD k.toNat default).toNat default).Copies)))) then
        some (.inr (.inr false))
      else
        some (.inl (IntKind.i64.wrap (k + 1)))
    else
      some (.inr (.inl ()))

noncomputable def laws_FnCovered_l1 (list : List Volume) (from_ : Int) (to_ : Int) (bad : Int) (model : List Int) (one : Int) (open_ : List Window) (a : List Volume) (b : Int) (c : Int) (right_ : List Window) : Int → Option (Int ⊕ (Unit ⊕ Bool))
  | i =>
    if (decide (i < (right_.length : Int))) then
      ck (ixOk i right_.length) <|
      (impl_VolumesAt a ((right_.getD i.toNat default).From)).bind fun y_18 =>
      if (((!(y_18.2 == 0)) || (decide (((right_.getD i.toNat default).From) < b))) || (decide (c < ((right_.getD i.toNat default).To)))) then
        some (.inr (.inr false))
      else
        (whileE (laws_FnCovered_l2 list from_ to_ bad model one open_ a b c right_ i y_18.1) 0).bind fun y_24 =>
        match y_24 with
        | .inl y_24a =>
          some (.inl (IntKind.i64.wrap (i + 1)))
        | .inr y_24b =>
          some (.inr (.inr y_24b))
    else
      some (.inr (.inl ()))

noncomputable def laws_FnCovered_l3 (list : List Volume) (to_ : Int) (model : List Int) : (Int × Int) → Option ((Int × Int) ⊕ (Int ⊕ Bool))
  | (t, i) =>
    if (decide (i < (model.length : Int))) then
      ck (ixOk i model.length) <|
      ck (ixOk (model.getD i.toNat default) list.length) <|
      if (((decide (t < ((list.getD (model.getD i.toNat default).toNat default).From))) || (decide (((list.getD (model.getD i.toNat default).toNat default).To) < t))) || (decide (((list.getD (model.getD i.toNat default).toNat default).Copies) < 1))) then
        some (.inr (.inr false))
      else
        some (.inl ((IntKind.i64.wrap (((list.getD (model.getD i.toNat default).toNat default).To) + 1)), (IntKind.i64.wrap (i + 1))))
    else
      some (.inr (.inl t))

noncomputable def laws_FnCovered_l4 (list : List Volume) (to_ : Int) (model : List Int) : (Int × Int) → Option ((Int × Int) ⊕ (Int ⊕ Bool))
  | (t, i) =>
    if (decide (i < (model.length : Int))) then
      ck (ixOk i model.length) <|
      ck (ixOk (model.getD i.toNat default) list.length) <|
      if (((decide (t < ((list.getD (model.getD i.toNat default).toNat default).From))) || (decide (((list.getD (model.getD i.toNat default).toNat default).To) < t))) || (decide (((list.getD (model.getD i.toNat default).toNat default).Copies) < 1))) then
        some (.inr (.inr false))
      else
        some (.inl ((IntKind.i64.wrap (((list.getD (model.getD i.toNat default).toNat default).To) + 1)), (IntKind.i64.wrap (i + 1))))
    else
      some (.inr (.inl t))

/-- laws.FnCovered -/
noncomputable def laws_FnCovered (code : List UInt8) : Option Bool :=
  (laws_f6big code).bind fun y_1 =>
  if y_1 then
    some true
  else
    (spec_DrawCoverTime code).bind fun y_3 =>
    (impl_CoverTime y_3.1 y_3.2.1 y_3.2.2).bind fun y_4 =>
    (spec_CoverTime y_3.1 y_3.2.1 y_3.2.2).bind fun y_5 =>
    (impl_GapsOfArchive y_3.1 y_3.2.1 y_3.2.2).bind fun y_6 =>
    (spec_GapsOfArchive y_3.1 y_3.2.1 y_3.2.2).bind fun y_7 =>
    (spec_DrawGapsOfArchive code).bind fun y_8 =>
    (impl_GapsOfArchive y_8.1 y_8.2.1 y_8.2.2).bind fun y_9 =>
    (spec_GapsOfArchive y_8.1 y_8.2.1 y_8.2.2).bind fun y_10 =>
    ck (!(!(!(y_4.2 == y_5.2))) || (laws_f6ints y_4.1 y_5.1).isSome) <|
    ck (!(!(((!(y_4.2 == y_5.2)) || (!((laws_f6ints y_4.1 y_5.1).getD default))) || (!(y_6.2 == y_7.2)))) || (spec_SameWindows y_6.1 y_7.1).isSome) <|
    ck (!(!(((((!(y_4.2 == y_5.2)) || (!((laws_f6ints y_4.1 y_5.1).getD default))) || (!(y_6.2 == y_7.2))) || (!((spec_SameWindows y_6.1 y_7.1).getD default))) || (!(y_9.2 == y_10.2)))) || (spec_SameWindows y_9.1 y_10.1).isSome) <|
    if ((((((!(y_4.2 == y_5.2)) || (!((laws_f6ints y_4.1 y_5.1).getD default))) || (!(y_6.2 == y_7.2))) || (!((spec_SameWindows y_6.1 y_7.1).getD default))) || (!(y_9.2 == y_10.2))) || (!((spec_SameWindows y_9.1 y_10.1).getD default))) then
      some false
    else
      if (y_9.2 == 0) then
        (whileE (laws_FnCovered_l1 y_3.1 y_3.2.1 y_3.2.2 y_4.2 y_5.1 y_6.2 y_7.1 y_8.1 y_8.2.1 y_8.2.2 y_10.1) 0).bind fun y_25 =>
        match y_25 with
        | .inl y_25a =>
          if ((((y_6.2 == 0) && (!(y_4.2 == 2))) && (!(y_4.2 == 1))) && (!(((y_7.1.length : Int) == 0) == (y_4.2 == 0)))) then
            some false
          else
            if (!(y_4.2 == 0)) then
              some true
            else
              (whileE (laws_FnCovered_l3 y_3.1 y_3.2.2 y_5.1) (y_3.2.1, 0)).bind fun y_32 =>
              match y_32 with
              | .inl y_32a =>
                some (decide (y_3.2.2 < y_32a))
              | .inr y_32b =>
                some y_32b
        | .inr y_25b =>
          some y_25b
      else
        if ((((y_6.2 == 0) && (!(y_4.2 == 2))) && (!(y_4.2 == 1))) && (!(((y_7.1.length : Int) == 0) == (y_4.2 == 0)))) then
          some false
        else
          if (!(y_4.2 == 0)) then
            some true
          else
            (whileE (laws_FnCovered_l4 y_3.1 y_3.2.2 y_5.1) (y_3.2.1, 0)).bind fun y_39 =>
            match y_39 with
            | .inl y_39a =>
              some (decide (y_3.2.2 < y_39a))
            | .inr y_39b =>
              some y_39b

end Go.Proofs.Ytikaacjlnkfebaa
