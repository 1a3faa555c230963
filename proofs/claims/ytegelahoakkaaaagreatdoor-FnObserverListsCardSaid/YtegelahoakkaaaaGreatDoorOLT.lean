/- Typed forms of the functions that OL reaches. No condition. -/
import Derived.Test.YtegelahoakkaaaaGreatDoorEngSI
namespace Go.Proofs.YtegelahoakkaaaaGreatDoor
open Go Go.RowKit
set_option linter.unusedVariables false

structure Observer where
  Name : List UInt8
  Shift : Int
  deriving Inhabited, DecidableEq
def Observer_av (x : Observer) : AV := .agg ([.str x.Name, .int .i64 x.Shift])

structure L00Src where
  code_ : List UInt8
  at_ : Int
  seed_ : Int
  deriving Inhabited, DecidableEq
def L00Src_av (x : L00Src) : AV := .agg ([.sl 1 (List.map byteAV x.code_), .int .i64 x.at_, .int .u64 x.seed_])

attribute [go_sem] Observer_av L00Src_av

/-- laws.f6big -/
noncomputable def laws_f6big (code : List UInt8) : Option Bool :=
  some (decide (4096 < (code.length : Int)))

/-- spec.l00From -/
noncomputable def spec_l00From (code : List UInt8) : Option L00Src :=
  some (L00Src.mk code 0 0)

/-- (*spec.l00Src).next -/
noncomputable def spec_l00Src_next (s_ : L00Src) : Option (Int × L00Src) :=
  if (decide (s_.at_ < (s_.code_.length : Int))) then
    ck (ixOk s_.at_ s_.code_.length) <|
    if (decide ((IntKind.i64.wrap (s_.at_ + 1)) ≤ (s_.code_.length : Int))) then
      some (((s_.code_.getD s_.at_.toNat default).toNat : Int), (L00Src.mk s_.code_ (IntKind.i64.wrap (s_.at_ + 1)) (IntKind.u64.wrap ((IntKind.u64.wrap ((IntKind.u64.wrap (s_.seed_ * 6364136223846793005)) + (IntKind.u64.wrap ((s_.code_.getD s_.at_.toNat default).toNat : Int)))) + 1442695040888963407))))
    else
      ck (shOk 40) <|
      some ((IntKind.i64.wrap (IntKind.u64.wrap (BitVec.ofInt (IntKind.bits .u64) ((IntKind.u64.wrap ((IntKind.u64.wrap ((IntKind.u64.wrap (s_.seed_ * 6364136223846793005)) + (IntKind.u64.wrap ((s_.code_.getD s_.at_.toNat default).toNat : Int)))) + 1442695040888963407)).fdiv (2 ^ (min 40 64))) &&& BitVec.ofInt (IntKind.bits .u64) 255).toNat)), (L00Src.mk s_.code_ (IntKind.i64.wrap (s_.at_ + 1)) (IntKind.u64.wrap ((IntKind.u64.wrap ((IntKind.u64.wrap (s_.seed_ * 6364136223846793005)) + (IntKind.u64.wrap ((s_.code_.getD s_.at_.toNat default).toNat : Int)))) + 1442695040888963407))))
  else
    if (decide ((IntKind.i64.wrap (s_.at_ + 1)) ≤ (s_.code_.length : Int))) then
      some (0, (L00Src.mk s_.code_ (IntKind.i64.wrap (s_.at_ + 1)) (IntKind.u64.wrap ((IntKind.u64.wrap ((IntKind.u64.wrap (s_.seed_ * 6364136223846793005)) + (IntKind.u64.wrap 0))) + 1442695040888963407))))
    else
      ck (shOk 40) <|
      some ((IntKind.i64.wrap (IntKind.u64.wrap (BitVec.ofInt (IntKind.bits .u64) ((IntKind.u64.wrap ((IntKind.u64.wrap ((IntKind.u64.wrap (s_.seed_ * 6364136223846793005)) + (IntKind.u64.wrap 0))) + 1442695040888963407)).fdiv (2 ^ (min 40 64))) &&& BitVec.ofInt (IntKind.bits .u64) 255).toNat)), (L00Src.mk s_.code_ (IntKind.i64.wrap (s_.at_ + 1)) (IntKind.u64.wrap ((IntKind.u64.wrap ((IntKind.u64.wrap (s_.seed_ * 6364136223846793005)) + (IntKind.u64.wrap 0))) + 1442695040888963407))))

/-- (*spec.l00Src).pick -/
noncomputable def spec_l00Src_pick (s_ : L00Src) (n : Int) : Option (Int × L00Src) :=
  if (decide (n ≤ 1)) then
    some (0, s_)
  else
    (spec_l00Src_next s_).bind fun y_2 =>
    if (decide (200 < n)) then
      (spec_l00Src_next y_2.2).bind fun y_4 =>
      ck (nz n) <|
      some (((IntKind.i64.wrap ((IntKind.i64.wrap (y_2.1 * 256)) + y_4.1)).tmod n), y_4.2)
    else
      ck (nz n) <|
      some ((y_2.1.tmod n), y_2.2)

/-- spec.l05Names -/
noncomputable def spec_l05Names  : Option (List (List UInt8)) :=
  some ([([97, 98] : List UInt8), ([99, 100, 45, 49] : List UInt8), ([101, 118, 101] : List UInt8), ([107, 105, 109] : List UInt8), ([108, 111, 117] : List UInt8), ([122, 101, 100] : List UInt8)] : List (List UInt8))

/-- (*spec.l00Src).one -/
noncomputable def spec_l00Src_one (s_ : L00Src) (n : Int) : Option (Bool × L00Src) :=
  (spec_l00Src_pick s_ n).bind fun y_1 =>
  some ((y_1.1 == 0), y_1.2)

noncomputable def spec_l05Draw_l1 (names : List (List UInt8)) : (L00Src × (List Observer) × Int) → Option ((L00Src × (List Observer) × Int) ⊕ (L00Src × (List Observer)))
  | (s_, out, k) =>
    if (decide (k < (names.length : Int))) then
      (spec_l00Src_one s_ 3).bind fun y_3 =>
      if y_3.1 then
        some (.inl (y_3.2, out, (IntKind.i64.wrap (k + 1))))
      else
        ck (ixOk k names.length) <|
        (spec_l00Src_pick y_3.2 60).bind fun y_6 =>
        ck (appOk (out.length + ([(Observer.mk (names.getD k.toNat default) (IntKind.i64.wrap ((IntKind.i64.wrap (10 * y_6.1)) - 300)))] : List Observer).length) 24) <|
        some (.inl (y_6.2, (out ++ ([(Observer.mk (names.getD k.toNat default) (IntKind.i64.wrap ((IntKind.i64.wrap (10 * y_6.1)) - 300)))] : List Observer)), (IntKind.i64.wrap (k + 1))))
    else
      some (.inr (s_, out))

/-- spec.l05Draw -/
noncomputable def spec_l05Draw (s_ : L00Src) : Option ((List Observer) × L00Src) :=
  (spec_l05Names).bind fun y_1 =>
  (whileE (spec_l05Draw_l1 y_1) (s_, ([] : List Observer), 0)).bind fun y_8 =>
  some (y_8.2, y_8.1)

/-- (*spec.l00Src).text -/
noncomputable def spec_l00Src_text (s_ : L00Src) (list : List (List UInt8)) : Option ((List UInt8) × L00Src) :=
  (spec_l00Src_pick s_ (list.length : Int)).bind fun y_1 =>
  ck (ixOk y_1.1 list.length) <|
  some ((list.getD y_1.1.toNat default), y_1.2)

/-- (*spec.l00Src).among -/
noncomputable def spec_l00Src_among (s_ : L00Src) (list : List Int) : Option (Int × L00Src) :=
  (spec_l00Src_pick s_ (list.length : Int)).bind fun y_1 =>
  ck (ixOk y_1.1 list.length) <|
  some ((list.getD y_1.1.toNat default), y_1.2)

noncomputable def spec_l05Bent_l1 (s_ : L00Src) : ((List Observer) × Int) → Option (((List Observer) × Int) ⊕ (List Observer))
  | (list, k) =>
    if (decide (0 < k)) then
      ck (nz 26) <|
      ck (catOk ([111] : List UInt8).length ([(toU8 (IntKind.u8.wrap (IntKind.i64.wrap (97 + (IntKind.i64.wrap ((list.length : Int).tdiv 26)))))), (toU8 (IntKind.u8.wrap (IntKind.i64.wrap (97 + ((list.length : Int).tmod 26)))))] : List UInt8).length) <|
      ck (appOk (list.length + ([(Observer.mk (([111] : List UInt8) ++ ([(toU8 (IntKind.u8.wrap (IntKind.i64.wrap (97 + (IntKind.i64.wrap ((list.length : Int).tdiv 26)))))), (toU8 (IntKind.u8.wrap (IntKind.i64.wrap (97 + ((list.length : Int).tmod 26)))))] : List UInt8)) (list.length : Int))] : List Observer).length) 24) <|
      some (.inl ((list ++ ([(Observer.mk (([111] : List UInt8) ++ ([(toU8 (IntKind.u8.wrap (IntKind.i64.wrap (97 + (IntKind.i64.wrap ((list.length : Int).tdiv 26)))))), (toU8 (IntKind.u8.wrap (IntKind.i64.wrap (97 + ((list.length : Int).tmod 26)))))] : List UInt8)) (list.length : Int))] : List Observer)), (IntKind.i64.wrap (k - 1))))
    else
      some (.inr list)

/-- spec.l05Bent -/
noncomputable def spec_l05Bent (s_ : L00Src) : Option ((List Observer) × L00Src) :=
  (spec_l05Draw s_).bind fun y_1 =>
  (spec_l00Src_one y_1.2 24).bind fun y_2 =>
  if y_2.1 then
    (spec_l00Src_pick y_2.2 2).bind fun y_4 =>
    (whileE (spec_l05Bent_l1 y_4.2) (([] : List Observer), (IntKind.i64.wrap (40 + y_4.1)))).bind fun y_9 =>
    if ((y_9.length : Int) == 0) then
      some (y_9, y_4.2)
    else
      (spec_l00Src_pick y_4.2 (y_9.length : Int)).bind fun y_11 =>
      ck (ixOk y_11.1 y_9.length) <|
      (spec_l00Src_pick y_11.2 16).bind fun y_13 =>
      if (y_13.1 == 0) then
        (spec_l00Src_text y_13.2 ([([] : List UInt8), ([65, 98] : List UInt8), ([97, 98] : List UInt8), ([122, 122] : List UInt8)] : List (List UInt8))).bind fun y_15 =>
        some ((y_9.set y_11.1.toNat (Observer.mk y_15.1 ((y_9.getD y_11.1.toNat default).Shift))), y_15.2)
      else
        if (y_13.1 == 1) then
          (spec_l00Src_among y_13.2 ([(-2001), (-2000), 0, 2000, 2001, (-9223372036854775808)] : List Int)).bind fun y_17 =>
          some ((y_9.set y_11.1.toNat (Observer.mk ((y_9.getD y_11.1.toNat default).Name) y_17.1)), y_17.2)
        else
          some (y_9, y_13.2)
  else
    if ((y_1.1.length : Int) == 0) then
      some (y_1.1, y_2.2)
    else
      (spec_l00Src_pick y_2.2 (y_1.1.length : Int)).bind fun y_19 =>
      ck (ixOk y_19.1 y_1.1.length) <|
      (spec_l00Src_pick y_19.2 16).bind fun y_21 =>
      if (y_21.1 == 0) then
        (spec_l00Src_text y_21.2 ([([] : List UInt8), ([65, 98] : List UInt8), ([97, 98] : List UInt8), ([122, 122] : List UInt8)] : List (List UInt8))).bind fun y_23 =>
        some ((y_1.1.set y_19.1.toNat (Observer.mk y_23.1 ((y_1.1.getD y_19.1.toNat default).Shift))), y_23.2)
      else
        if (y_21.1 == 1) then
          (spec_l00Src_among y_21.2 ([(-2001), (-2000), 0, 2000, 2001, (-9223372036854775808)] : List Int)).bind fun y_25 =>
          some ((y_1.1.set y_19.1.toNat (Observer.mk ((y_1.1.getD y_19.1.toNat default).Name) y_25.1)), y_25.2)
        else
          some (y_1.1, y_21.2)

/-- spec.l05Name -/
noncomputable def spec_l05Name (s_ : L00Src) : Option ((List UInt8) × L00Src) :=
  (spec_l00Src_text s_ ([([97, 98] : List UInt8), ([99, 100, 45, 49] : List UInt8), ([101, 118, 101] : List UInt8), ([107, 105, 109] : List UInt8), ([110, 101, 119] : List UInt8), ([] : List UInt8), ([78, 101, 119] : List UInt8)] : List (List UInt8))).bind fun y_1 =>
  some (y_1.1, y_1.2)

/-- spec.DrawAddObserver -/
noncomputable def spec_DrawAddObserver (code : List UInt8) : Option ((List Observer) × Observer) :=
  (spec_l00From code).bind fun y_1 =>
  (spec_l05Bent y_1).bind fun y_2 =>
  (spec_l05Name y_2.2).bind fun y_3 =>
  (spec_l00Src_pick y_3.2 100).bind fun y_4 =>
  (spec_l00Src_one y_4.2 12).bind fun y_5 =>
  if y_5.1 then
    (spec_l00Src_among y_5.2 ([(-2001), 2000, 2001] : List Int)).bind fun y_7 =>
    some (y_2.1, (Observer.mk y_3.1 y_7.1))
  else
    some (y_2.1, (Observer.mk y_3.1 (IntKind.i64.wrap (y_4.1 - 50))))

noncomputable def impl_IsName_l1 (s_ : List UInt8) (t15 : Int) : Int → Option (Int ⊕ (Unit ⊕ Bool))
  | t16 =>
    if (decide (t16 < t15)) then
      ck (ixOk t16 s_.length) <|
      if ((!((decide (97 ≤ ((s_.getD t16.toNat 0).toNat : Int))) && (decide (((s_.getD t16.toNat 0).toNat : Int) ≤ 122)))) && ((t16 == 0) || (!(((decide (48 ≤ ((s_.getD t16.toNat 0).toNat : Int))) && (decide (((s_.getD t16.toNat 0).toNat : Int) ≤ 57))) || (((s_.getD t16.toNat 0).toNat : Int) == 45))))) then
        some (.inr (.inr false))
      else
        some (.inl (IntKind.i64.wrap (t16 + 1)))
    else
      some (.inr (.inl ()))

/-- impl.IsName -/
noncomputable def impl_IsName (s_ : List UInt8) : Option Bool :=
  if ((decide ((s_.length : Int) < 1)) || (decide (12 < (s_.length : Int)))) then
    some false
  else
    (whileE (impl_IsName_l1 s_ (s_.length : Int)) 0).bind fun y_5 =>
    match y_5 with
    | .inl y_5a =>
      some true
    | .inr y_5b =>
      some y_5b

/-- impl.in -/
noncomputable def impl_in (n : Int) (low : Int) (high : Int) : Option Bool :=
  some ((decide (low ≤ n)) && (decide (n ≤ high)))

/-- impl.isObserver -/
noncomputable def impl_isObserver (x : Observer) : Option Bool :=
  (impl_IsName x.Name).bind fun y_1 =>
  ck (!y_1 || (impl_in x.Shift (-2000) 2000).isSome) <|
  some (y_1 && ((impl_in x.Shift (-2000) 2000).getD default))

/-- impl.observerName -/
noncomputable def impl_observerName (x : Observer) : Option (List UInt8) :=
  some x.Name

noncomputable def impl_rising_impl_Observer__impl_isObserver__impl_observerName_l1 (list : List Observer) (t15 : List Observer) (t16 : Int) : Int → Option (Int ⊕ (Unit ⊕ Bool))
  | t17 =>
    if (decide (t17 < t16)) then
      ck (ixOk t17 t15.length) <|
      (impl_isObserver (t15.getD t17.toNat default)).bind fun y_4 =>
      ck (!((!(!y_4)) && (decide (0 < t17))) || ixOk (IntKind.i64.wrap (t17 - 1)) list.length) <|
      ck (!((!(!y_4)) && (decide (0 < t17))) || (impl_observerName (list.getD (IntKind.i64.wrap (t17 - 1)).toNat default)).isSome) <|
      ck (!((!(!y_4)) && (decide (0 < t17))) || (impl_observerName (t15.getD t17.toNat default)).isSome) <|
      if ((!y_4) || ((decide (0 < t17)) && (!(Op.bytesLess ((impl_observerName (list.getD (IntKind.i64.wrap (t17 - 1)).toNat default)).getD default) ((impl_observerName (t15.getD t17.toNat default)).getD default))))) then
        some (.inr (.inr false))
      else
        some (.inl (IntKind.i64.wrap (t17 + 1)))
    else
      some (.inr (.inl ()))

/-- impl.rising[impl.Observer] -/
noncomputable def impl_rising_impl_Observer__impl_isObserver__impl_observerName (list : List Observer) (most : Int) : Option Bool :=
  if (decide (most < (list.length : Int))) then
    some false
  else
    (whileE (impl_rising_impl_Observer__impl_isObserver__impl_observerName_l1 list list (list.length : Int)) 0).bind fun y_9 =>
    match y_9 with
    | .inl y_9a =>
      some true
    | .inr y_9b =>
      some y_9b

/-- impl.ValidObservers -/
noncomputable def impl_ValidObservers (list : List Observer) : Option Bool :=
  (impl_rising_impl_Observer__impl_isObserver__impl_observerName list 40).bind fun y_1 =>
  some y_1

/-- impl.findObserver$1 -/
noncomputable def impl_findObserver_c1 (x : Observer) (t1 : List UInt8) : Option Bool :=
  some (x.Name == t1)

noncomputable def slices_IndexFunc_impl_Observer_impl_Observer__impl_findObserver_c1_l1 (s_ : List Observer) (c : List UInt8) (t7 : Int) : Int → Option (Int ⊕ (Unit ⊕ Int))
  | t8 =>
    if (decide (t8 < t7)) then
      ck (ixOk t8 s_.length) <|
      (impl_findObserver_c1 (s_.getD t8.toNat default) c).bind fun y_3 =>
      if y_3 then
        some (.inr (.inr t8))
      else
        some (.inl (IntKind.i64.wrap (t8 + 1)))
    else
      some (.inr (.inl ()))

/-- slices.IndexFunc[[]impl.Observer,impl.Observer] -/
noncomputable def slices_IndexFunc_impl_Observer_impl_Observer__impl_findObserver_c1 (s_ : List Observer) (f_c0 : List UInt8) : Option Int :=
  (whileE (slices_IndexFunc_impl_Observer_impl_Observer__impl_findObserver_c1_l1 s_ f_c0 (s_.length : Int)) 0).bind fun y_5 =>
  match y_5 with
  | .inl y_5a =>
    some (-1)
  | .inr y_5b =>
    some y_5b

/-- impl.indexOf[impl.Observer] -/
noncomputable def impl_indexOf_impl_Observer__impl_findObserver_c1 (list : List Observer) (wanted_c0 : List UInt8) : Option (Int × Int) :=
  (slices_IndexFunc_impl_Observer_impl_Observer__impl_findObserver_c1 list wanted_c0).bind fun y_1 =>
  if (decide (0 ≤ y_1)) then
    some (y_1, 0)
  else
    some (0, 3)

/-- impl.findObserver -/
noncomputable def impl_findObserver (list : List Observer) (name : List UInt8) : Option (Int × Int) :=
  (impl_indexOf_impl_Observer__impl_findObserver_c1 list name).bind fun y_1 =>
  some (y_1.1, y_1.2)

/-- impl.copyOf[impl.Observer] -/
noncomputable def impl_copyOf_impl_Observer (list : List Observer) : Option (List Observer) :=
  ck (appOk (([] : List Observer).length + list.length) 24) <|
  some (([] : List Observer) ++ list)


noncomputable def impl_inserted_impl_Observer__impl_observerName_l1 (list : List Observer) (x : Observer) : Int → Option (Int ⊕ Int)
  | k =>
    ck (!(decide (k < (list.length : Int))) || ixOk k list.length) <|
    ck (!(decide (k < (list.length : Int))) || (impl_observerName (list.getD k.toNat default)).isSome) <|
    ck (!(decide (k < (list.length : Int))) || (impl_observerName x).isSome) <|
    if ((decide (k < (list.length : Int))) && (Op.bytesLess ((impl_observerName (list.getD k.toNat default)).getD default) ((impl_observerName x).getD default))) then
      some (.inl (IntKind.i64.wrap (k + 1)))
    else
      some (.inr k)

/-- impl.inserted[impl.Observer] -/
noncomputable def impl_inserted_impl_Observer__impl_observerName (list : List Observer) (x : Observer) : Option (List Observer) :=
  (whileE (impl_inserted_impl_Observer__impl_observerName_l1 list x) 0).bind fun y_5 =>
  (impl_copyOf_impl_Observer list).bind fun y_6 =>
  (hIns 24 y_6 y_5 ([x] : List Observer)).bind fun y_7 =>
  some y_7

/-- impl.AddObserver -/
noncomputable def impl_AddObserver (list : List Observer) (x : Observer) : Option ((List Observer) × Int) :=
  (impl_ValidObservers list).bind fun y_1 =>
  if (!y_1) then
    some (([] : List Observer), 1)
  else
    (impl_isObserver x).bind fun y_3 =>
    if (!y_3) then
      some (([] : List Observer), 2)
    else
      (impl_findObserver list x.Name).bind fun y_5 =>
      if (y_5.2 == 0) then
        some (([] : List Observer), 4)
      else
        if ((list.length : Int) == 40) then
          some (([] : List Observer), 5)
        else
          (impl_inserted_impl_Observer__impl_observerName list x).bind fun y_8 =>
          some (y_8, 0)

/-- spec.l01Small -/
noncomputable def spec_l01Small (c : UInt8) : Option Bool :=
  some ((decide (97 ≤ (c.toNat : Int))) && (decide ((c.toNat : Int) ≤ 122)))

/-- spec.l01Digit -/
noncomputable def spec_l01Digit (c : UInt8) : Option Bool :=
  some ((decide (48 ≤ (c.toNat : Int))) && (decide ((c.toNat : Int) ≤ 57)))

noncomputable def spec_IsName_l1 (s_ : List UInt8) : Int → Option (Int ⊕ (Unit ⊕ Bool))
  | i =>
    if (decide (i < (s_.length : Int))) then
      ck (ixOk i s_.length) <|
      (spec_l01Small (s_.getD i.toNat 0)).bind fun y_6 =>
      ck (!(!y_6) || (spec_l01Digit (s_.getD i.toNat 0)).isSome) <|
      if (((!y_6) && (!((spec_l01Digit (s_.getD i.toNat 0)).getD default))) && (!(((s_.getD i.toNat 0).toNat : Int) == 45))) then
        some (.inr (.inr false))
      else
        some (.inl (IntKind.i64.wrap (i + 1)))
    else
      some (.inr (.inl ()))

/-- spec.IsName -/
noncomputable def spec_IsName (s_ : List UInt8) : Option Bool :=
  ck (!(!((s_ == ([] : List UInt8)) || (decide (12 < (s_.length : Int))))) || ixOk 0 s_.length) <|
  ck (!(!((s_ == ([] : List UInt8)) || (decide (12 < (s_.length : Int))))) || (spec_l01Small (s_.getD 0 0)).isSome) <|
  if (((s_ == ([] : List UInt8)) || (decide (12 < (s_.length : Int)))) || (!((spec_l01Small (s_.getD 0 0)).getD default))) then
    some false
  else
    (whileE (spec_IsName_l1 s_) 0).bind fun y_9 =>
    match y_9 with
    | .inl y_9a =>
      some true
    | .inr y_9b =>
      some y_9b

/-- spec.l00In -/
noncomputable def spec_l00In (n : Int) (low : Int) (high : Int) : Option Bool :=
  some ((decide (low ≤ n)) && (decide (n ≤ high)))

/-- spec.l05One -/
noncomputable def spec_l05One (x : Observer) : Option Bool :=
  (spec_IsName x.Name).bind fun y_1 =>
  ck (!y_1 || (spec_l00In x.Shift (-2000) 2000).isSome) <|
  some (y_1 && ((spec_l00In x.Shift (-2000) 2000).getD default))

noncomputable def spec_l05Ok_l1 (list : List Observer) : Int → Option (Int ⊕ (Unit ⊕ Bool))
  | i =>
    if (decide (i < (list.length : Int))) then
      ck (ixOk i list.length) <|
      (spec_l05One (list.getD i.toNat default)).bind fun y_3 =>
      ck (!((!(!y_3)) && (decide (0 < i))) || ixOk (IntKind.i64.wrap (i - 1)) list.length) <|
      if ((!y_3) || ((decide (0 < i)) && (!(Op.bytesLess ((list.getD (IntKind.i64.wrap (i - 1)).toNat default).Name) ((list.getD i.toNat default).Name))))) then
        some (.inr (.inr false))
      else
        some (.inl (IntKind.i64.wrap (i + 1)))
    else
      some (.inr (.inl ()))

/-- spec.l05Ok -/
noncomputable def spec_l05Ok (list : List Observer) : Option Bool :=
  (whileE (spec_l05Ok_l1 list) 0).bind fun y_6 =>
  match y_6 with
  | .inl y_6a =>
    some (decide ((list.length : Int) ≤ 40))
  | .inr y_6b =>
    some y_6b

noncomputable def spec_l05Find_l1 (list : List Observer) (name : List UInt8) : Int → Option (Int ⊕ (Unit ⊕ Int))
  | i =>
    if (decide (i < (list.length : Int))) then
      ck (ixOk i list.length) <|
      if (((list.getD i.toNat default).Name) == name) then
        some (.inr (.inr i))
      else
        some (.inl (IntKind.i64.wrap (i + 1)))
    else
      some (.inr (.inl ()))

/-- spec.l05Find -/
noncomputable def spec_l05Find (list : List Observer) (name : List UInt8) : Option Int :=
  (whileE (spec_l05Find_l1 list name) 0).bind fun y_4 =>
  match y_4 with
  | .inl y_4a =>
    some (-1)
  | .inr y_4b =>
    some y_4b

noncomputable def spec_AddObserver_l1 (list : List Observer) (x : Observer) : Int → Option (Int ⊕ Int)
  | k =>
    ck (!(decide (0 < k)) || ixOk (IntKind.i64.wrap (k - 1)) list.length) <|
    if ((decide (0 < k)) && (!(Op.bytesLess ((list.getD (IntKind.i64.wrap (k - 1)).toNat default).Name) x.Name || ((list.getD (IntKind.i64.wrap (k - 1)).toNat default).Name) == x.Name))) then
      some (.inl (IntKind.i64.wrap (k - 1)))
    else
      some (.inr k)

/-- spec.AddObserver -/
noncomputable def spec_AddObserver (list : List Observer) (x : Observer) : Option ((List Observer) × Int) :=
  (spec_l05Ok list).bind fun y_1 =>
  if (!y_1) then
    some (([] : List Observer), 1)
  else
    (spec_l05One x).bind fun y_3 =>
    if (!y_3) then
      some (([] : List Observer), 2)
    else
      (spec_l05Find list x.Name).bind fun y_5 =>
      if (decide (0 ≤ y_5)) then
        some (([] : List Observer), 4)
      else
        if (decide (40 ≤ (list.length : Int))) then
          some (([] : List Observer), 5)
        else
          (whileE (spec_AddObserver_l1 list x) (list.length : Int)).bind fun y_10 =>
          ck (cutOk 0 y_10 list.length) <|
          ck (appOk (([] : List Observer).length + (cut list 0 y_10).length) 24) <|
          ck (appOk ((([] : List Observer) ++ (cut list 0 y_10)).length + ([x] : List Observer).length) 24) <|
          ck (cutOk y_10 (list.length : Int) list.length) <|
          ck (appOk (((([] : List Observer) ++ (cut list 0 y_10)) ++ ([x] : List Observer)).length + (cut list y_10 (list.length : Int)).length) 24) <|
          some ((((([] : List Observer) ++ (cut list 0 y_10)) ++ ([x] : List Observer)) ++ (cut list y_10 (list.length : Int))), 0)

/-- spec.DrawObserverNamed -/
noncomputable def spec_DrawObserverNamed (code : List UInt8) : Option ((List Observer) × (List UInt8)) :=
  (spec_l00From code).bind fun y_1 =>
  (spec_l05Bent y_1).bind fun y_2 =>
  (spec_l05Name y_2.2).bind fun y_3 =>
  some (y_2.1, y_3.1)

/-- impl.ObserverNamed -/
noncomputable def impl_ObserverNamed (list : List Observer) (name : List UInt8) : Option (Int × Int) :=
  (impl_ValidObservers list).bind fun y_1 =>
  if (!y_1) then
    some (0, 1)
  else
    (impl_findObserver list name).bind fun y_3 =>
    some (y_3.1, y_3.2)

/-- spec.ObserverNamed -/
noncomputable def spec_ObserverNamed (list : List Observer) (name : List UInt8) : Option (Int × Int) :=
  (spec_l05Ok list).bind fun y_1 =>
  if (!y_1) then
    some (0, 1)
  else
    (spec_l05Find list name).bind fun y_3 =>
    if (decide (y_3 < 0)) then
      some (0, 3)
    else
      some (y_3, 0)

/-- spec.l02Draw -/
noncomputable def spec_l02Draw (s_ : L00Src) : Option (Int × L00Src) :=
  (spec_l00Src_one s_ 8).bind fun y_1 =>
  if y_1.1 then
    (spec_l00Src_pick y_1.2 22001).bind fun y_3 =>
    some ((IntKind.i64.wrap (y_3.1 + (-2000))), y_3.2)
  else
    (spec_l00Src_pick y_1.2 60).bind fun y_4 =>
    some ((IntKind.i64.wrap (8000 + (IntKind.i64.wrap (50 * y_4.1)))), y_4.2)

/-- spec.DrawCorrectMag -/
noncomputable def spec_DrawCorrectMag (code : List UInt8) : Option ((List Observer) × (List UInt8) × Int) :=
  (spec_l00From code).bind fun y_1 =>
  (spec_l05Bent y_1).bind fun y_2 =>
  (spec_l05Name y_2.2).bind fun y_3 =>
  (spec_l00Src_one y_3.2 6).bind fun y_4 =>
  if y_4.1 then
    (spec_l00Src_among y_4.2 ([(-2001), (-2000), 20000, 20001, (-9223372036854775808)] : List Int)).bind fun y_6 =>
    some (y_2.1, y_3.1, y_6.1)
  else
    (spec_l02Draw y_4.2).bind fun y_7 =>
    some (y_2.1, y_3.1, y_7.1)

/-- impl.ValidMag -/
noncomputable def impl_ValidMag (m : Int) : Option Bool :=
  (impl_in m (-2000) 20000).bind fun y_1 =>
  some y_1

/-- impl.CorrectMag -/
noncomputable def impl_CorrectMag (list : List Observer) (name : List UInt8) (m : Int) : Option (Int × Int) :=
  (impl_ValidObservers list).bind fun y_1 =>
  if (!y_1) then
    some (0, 1)
  else
    (impl_ValidMag m).bind fun y_3 =>
    if (!y_3) then
      some (0, 2)
    else
      (impl_findObserver list name).bind fun y_5 =>
      if (!(y_5.2 == 0)) then
        some (0, y_5.2)
      else
        ck (ixOk y_5.1 list.length) <|
        (impl_ValidMag (IntKind.i64.wrap (m + ((list.getD y_5.1.toNat default).Shift)))).bind fun y_8 =>
        if (!y_8) then
          some (0, 5)
        else
          some ((IntKind.i64.wrap (m + ((list.getD y_5.1.toNat default).Shift))), 0)

/-- spec.l02Mag -/
noncomputable def spec_l02Mag (m : Int) : Option Bool :=
  (spec_l00In m (-2000) 20000).bind fun y_1 =>
  some y_1

/-- spec.CorrectMag -/
noncomputable def spec_CorrectMag (list : List Observer) (name : List UInt8) (m : Int) : Option (Int × Int) :=
  (spec_ObserverNamed list name).bind fun y_1 =>
  if (y_1.2 == 1) then
    some (0, y_1.2)
  else
    (spec_l02Mag m).bind fun y_3 =>
    if (!y_3) then
      some (0, 2)
    else
      if (!(y_1.2 == 0)) then
        some (0, y_1.2)
      else
        ck (ixOk y_1.1 list.length) <|
        (spec_l02Mag (IntKind.i64.wrap (m + ((list.getD y_1.1.toNat default).Shift)))).bind fun y_7 =>
        if (!y_7) then
          some (0, 5)
        else
          some ((IntKind.i64.wrap (m + ((list.getD y_1.1.toNat default).Shift))), 0)

noncomputable def spec_DrawApplyShifts_l1 (list : List Observer) : (L00Src × (List Int) × Int) → Option ((L00Src × (List Int) × Int) ⊕ (L00Src × (List Int)))
  | (s_, shifts, i) =>
    if (decide (i < (list.length : Int))) then
      (spec_l00Src_pick s_ 100).bind fun y_4 =>
      ck (appOk (shifts.length + ([(IntKind.i64.wrap (y_4.1 - 50))] : List Int).length) 8) <|
      some (.inl (y_4.2, (shifts ++ ([(IntKind.i64.wrap (y_4.1 - 50))] : List Int)), (IntKind.i64.wrap (i + 1))))
    else
      some (.inr (s_, shifts))

/-- spec.DrawApplyShifts -/
noncomputable def spec_DrawApplyShifts (code : List UInt8) : Option ((List Observer) × (List Int)) :=
  (spec_l00From code).bind fun y_1 =>
  (spec_l05Bent y_1).bind fun y_2 =>
  (whileE (spec_DrawApplyShifts_l1 y_2.1) (y_2.2, ([] : List Int), 0)).bind fun y_6 =>
  (spec_l00Src_one y_6.1 12).bind fun y_7 =>
  if y_7.1 then
    ck (appOk (y_6.2.length + ([1] : List Int).length) 8) <|
    if (decide (0 < ((y_6.2 ++ ([1] : List Int)).length : Int))) then
      (spec_l00Src_one y_7.2 8).bind fun y_11 =>
      if ((decide (0 < ((y_6.2 ++ ([1] : List Int)).length : Int))) && y_11.1) then
        (spec_l00Src_among y_11.2 ([(-2001), (-2000), 2000, 2001] : List Int)).bind fun y_13 =>
        ck (ixOk 0 ((y_6.2 ++ ([1] : List Int)).length)) <|
        some (y_2.1, ((y_6.2 ++ ([1] : List Int)).set 0 y_13.1))
      else
        some (y_2.1, (y_6.2 ++ ([1] : List Int)))
    else
      some (y_2.1, (y_6.2 ++ ([1] : List Int)))
  else
    if (decide (0 < (y_6.2.length : Int))) then
      (spec_l00Src_one y_7.2 8).bind fun y_16 =>
      if ((decide (0 < (y_6.2.length : Int))) && y_16.1) then
        (spec_l00Src_among y_16.2 ([(-2001), (-2000), 2000, 2001] : List Int)).bind fun y_18 =>
        ck (ixOk 0 y_6.2.length) <|
        some (y_2.1, (y_6.2.set 0 y_18.1))
      else
        some (y_2.1, y_6.2)
    else
      some (y_2.1, y_6.2)

/-- impl.allIn$1 -/
noncomputable def impl_allIn_c1 (n : Int) (t1 : Int) (t2 : Int) : Option Bool :=
  (impl_in n t1 t2).bind fun y_1 =>
  some (!y_1)

noncomputable def slices_IndexFunc_int64_int64__impl_allIn_c1_l1 (s_ : List Int) (c : Int) (c2 : Int) (t7 : Int) : Int → Option (Int ⊕ (Unit ⊕ Int))
  | t8 =>
    if (decide (t8 < t7)) then
      ck (ixOk t8 s_.length) <|
      (impl_allIn_c1 (s_.getD t8.toNat default) c c2).bind fun y_3 =>
      if y_3 then
        some (.inr (.inr t8))
      else
        some (.inl (IntKind.i64.wrap (t8 + 1)))
    else
      some (.inr (.inl ()))

/-- slices.IndexFunc[[]int64,int64] -/
noncomputable def slices_IndexFunc_int64_int64__impl_allIn_c1 (s_ : List Int) (f_c0 : Int) (f_c1 : Int) : Option Int :=
  (whileE (slices_IndexFunc_int64_int64__impl_allIn_c1_l1 s_ f_c0 f_c1 (s_.length : Int)) 0).bind fun y_5 =>
  match y_5 with
  | .inl y_5a =>
    some (-1)
  | .inr y_5b =>
    some y_5b

/-- slices.ContainsFunc[[]int64,int64] -/
noncomputable def slices_ContainsFunc_int64_int64__impl_allIn_c1 (s_ : List Int) (f_c0 : Int) (f_c1 : Int) : Option Bool :=
  (slices_IndexFunc_int64_int64__impl_allIn_c1 s_ f_c0 f_c1).bind fun y_1 =>
  some (decide (0 ≤ y_1))

/-- impl.allIn -/
noncomputable def impl_allIn (list : List Int) (low : Int) (high : Int) : Option Bool :=
  (slices_ContainsFunc_int64_int64__impl_allIn_c1 list low high).bind fun y_1 =>
  some (!y_1)

noncomputable def impl_ApplyShifts_l1 (t26 : List Int) (t27 : Int) : ((List Observer) × Int) → Option (((List Observer) × Int) ⊕ (List Observer))
  | (out, t28) =>
    if (decide (t28 < t27)) then
      ck (ixOk t28 t26.length) <|
      ck (ixOk t28 out.length) <|
      some (.inl ((out.set t28.toNat (Observer.mk ((out.getD t28.toNat default).Name) (t26.getD t28.toNat default))), (IntKind.i64.wrap (t28 + 1))))
    else
      some (.inr out)

/-- impl.ApplyShifts -/
noncomputable def impl_ApplyShifts (list : List Observer) (shifts : List Int) : Option ((List Observer) × Int) :=
  (impl_ValidObservers list).bind fun y_1 =>
  if (!y_1) then
    some (([] : List Observer), 1)
  else
    ck (!(!(!((shifts.length : Int) == (list.length : Int)))) || (impl_allIn shifts (-2000) 2000).isSome) <|
    if ((!((shifts.length : Int) == (list.length : Int))) || (!((impl_allIn shifts (-2000) 2000).getD default))) then
      some (([] : List Observer), 2)
    else
      (impl_copyOf_impl_Observer list).bind fun y_5 =>
      (whileE (impl_ApplyShifts_l1 shifts (shifts.length : Int)) (y_5, 0)).bind fun y_9 =>
      some (y_9, 0)

noncomputable def spec_l05Shifts_l1 (shifts : List Int) (most : Int) : Int → Option (Int ⊕ (Unit ⊕ Bool))
  | i =>
    if (decide (i < (shifts.length : Int))) then
      ck (ixOk i shifts.length) <|
      (spec_l00In (shifts.getD i.toNat default) (IntKind.i64.wrap (0 - most)) most).bind fun y_3 =>
      if (!y_3) then
        some (.inr (.inr false))
      else
        some (.inl (IntKind.i64.wrap (i + 1)))
    else
      some (.inr (.inl ()))

/-- spec.l05Shifts -/
noncomputable def spec_l05Shifts (shifts : List Int) (most : Int) : Option Bool :=
  (whileE (spec_l05Shifts_l1 shifts most) 0).bind fun y_5 =>
  match y_5 with
  | .inl y_5a =>
    some true
  | .inr y_5b =>
    some y_5b

noncomputable def spec_ApplyShifts_l1 (list : List Observer) (shifts : List Int) : ((List Observer) × Int) → Option (((List Observer) × Int) ⊕ (List Observer))
  | (out, i) =>
    if (decide (i < (list.length : Int))) then
      ck (ixOk i list.length) <|
      ck (ixOk i shifts.length) <|
      ck (appOk (out.length + ([(Observer.mk ((list.getD i.toNat default).Name) (shifts.getD i.toNat default))] : List Observer).length) 24) <|
      some (.inl ((out ++ ([(Observer.mk ((list.getD i.toNat default).Name) (shifts.getD i.toNat default))] : List Observer)), (IntKind.i64.wrap (i + 1))))
    else
      some (.inr out)

/-- spec.ApplyShifts -/
noncomputable def spec_ApplyShifts (list : List Observer) (shifts : List Int) : Option ((List Observer) × Int) :=
  (spec_l05Ok list).bind fun y_1 =>
  if (!y_1) then
    some (([] : List Observer), 1)
  else
    ck (!(!(!((shifts.length : Int) == (list.length : Int)))) || (spec_l05Shifts shifts 2000).isSome) <|
    if ((!((shifts.length : Int) == (list.length : Int))) || (!((spec_l05Shifts shifts 2000).getD default))) then
      some (([] : List Observer), 2)
    else
      (whileE (spec_ApplyShifts_l1 list shifts) (([] : List Observer), 0)).bind fun y_9 =>
      some (y_9, 0)

/-- spec.l05Other -/
noncomputable def spec_l05Other (s_ : L00Src) : Option (Observer × L00Src) :=
  (spec_l05Bent s_).bind fun y_1 =>
  if ((y_1.1.length : Int) == 0) then
    some ((Observer.mk ([120] : List UInt8) 0), y_1.2)
  else
    (spec_l00Src_pick y_1.2 (y_1.1.length : Int)).bind fun y_3 =>
    ck (ixOk y_3.1 y_1.1.length) <|
    some ((y_1.1.getD y_3.1.toNat default), y_3.2)

/-- spec.DrawObserverText -/
noncomputable def spec_DrawObserverText (code : List UInt8) : Option Observer :=
  (spec_l00From code).bind fun y_1 =>
  (spec_l05Other y_1).bind fun y_2 =>
  some y_2.1

/-- impl.abs -/
noncomputable def impl_abs (n : Int) : Option Int :=
  if (decide (n < 0)) then
    some (IntKind.i64.wrap (0 - n))
  else
    some n


/-- strconv.FormatInt -/
noncomputable def strconv_FormatInt (i : Int) (base : Int) : Option (List UInt8) :=
  (hFmt i base).bind fun y_1 =>
  some y_1

/-- impl.Decimal -/
noncomputable def impl_Decimal (n : Int) : Option (List UInt8) :=
  (strconv_FormatInt n 10).bind fun y_1 =>
  some y_1

/-- impl.ObserverText -/
noncomputable def impl_ObserverText (x : Observer) : Option (List UInt8) :=
  (impl_isObserver x).bind fun y_1 =>
  if (!y_1) then
    some ([] : List UInt8)
  else
    if (decide (x.Shift < 0)) then
      ck (catOk x.Name.length ([32, 45] : List UInt8).length) <|
      (impl_abs x.Shift).bind fun y_5 =>
      (impl_Decimal y_5).bind fun y_6 =>
      ck (catOk (x.Name ++ ([32, 45] : List UInt8)).length y_6.length) <|
      some ((x.Name ++ ([32, 45] : List UInt8)) ++ y_6)
    else
      ck (catOk x.Name.length ([32, 43] : List UInt8).length) <|
      (impl_abs x.Shift).bind fun y_9 =>
      (impl_Decimal y_9).bind fun y_10 =>
      ck (catOk (x.Name ++ ([32, 43] : List UInt8)).length y_10.length) <|
      some ((x.Name ++ ([32, 43] : List UInt8)) ++ y_10)


/-- internal/stringslite.HasPrefix -/
noncomputable def internal_stringslite_HasPrefix (s_ : List UInt8) (prefix_ : List UInt8) : Option Bool :=
  ck (!(decide ((prefix_.length : Int) ≤ (s_.length : Int))) || cutOk 0 (prefix_.length : Int) s_.length) <|
  some ((decide ((prefix_.length : Int) ≤ (s_.length : Int))) && ((cut s_ 0 (prefix_.length : Int)) == prefix_))

/-- internal/stringslite.CutPrefix -/
noncomputable def internal_stringslite_CutPrefix (s_ : List UInt8) (prefix_ : List UInt8) : Option ((List UInt8) × Bool) :=
  (internal_stringslite_HasPrefix s_ prefix_).bind fun y_1 =>
  if (!y_1) then
    some (s_, false)
  else
    ck (cutOk (prefix_.length : Int) (s_.length : Int) s_.length) <|
    some ((cut s_ (prefix_.length : Int) (s_.length : Int)), true)

/-- strings.CutPrefix -/
noncomputable def strings_CutPrefix (s_ : List UInt8) (prefix_ : List UInt8) : Option ((List UInt8) × Bool) :=
  (internal_stringslite_CutPrefix s_ prefix_).bind fun y_1 =>
  some (y_1.1, y_1.2)


/-- impl.ReadObserver -/
noncomputable def impl_ReadObserver (s_ : List UInt8) : Option (Observer × Bool) :=
  (hCut s_ ([32] : List UInt8)).bind fun y_1 =>
  (strings_CutPrefix y_1.2.1 ([45] : List UInt8)).bind fun y_2 =>
  if (!y_2.2) then
    (strings_CutPrefix y_1.2.1 ([43] : List UInt8)).bind fun y_4 =>
    (hRdDec y_4.1).bind fun y_5 =>
    if y_2.2 then
      ck (!(!(!y_5.2)) || (impl_ObserverText (Observer.mk y_1.1 (IntKind.i64.wrap (0 - y_5.1)))).isSome) <|
      if ((!y_5.2) || (!(((impl_ObserverText (Observer.mk y_1.1 (IntKind.i64.wrap (0 - y_5.1)))).getD default) == s_))) then
        some ((Observer.mk [] 0), false)
      else
        some ((Observer.mk y_1.1 (IntKind.i64.wrap (0 - y_5.1))), true)
    else
      ck (!(!(!y_5.2)) || (impl_ObserverText (Observer.mk y_1.1 y_5.1)).isSome) <|
      if ((!y_5.2) || (!(((impl_ObserverText (Observer.mk y_1.1 y_5.1)).getD default) == s_))) then
        some ((Observer.mk [] 0), false)
      else
        some ((Observer.mk y_1.1 y_5.1), true)
  else
    (hRdDec y_2.1).bind fun y_11 =>
    if y_2.2 then
      ck (!(!(!y_11.2)) || (impl_ObserverText (Observer.mk y_1.1 (IntKind.i64.wrap (0 - y_11.1)))).isSome) <|
      if ((!y_11.2) || (!(((impl_ObserverText (Observer.mk y_1.1 (IntKind.i64.wrap (0 - y_11.1)))).getD default) == s_))) then
        some ((Observer.mk [] 0), false)
      else
        some ((Observer.mk y_1.1 (IntKind.i64.wrap (0 - y_11.1))), true)
    else
      ck (!(!(!y_11.2)) || (impl_ObserverText (Observer.mk y_1.1 y_11.1)).isSome) <|
      if ((!y_11.2) || (!(((impl_ObserverText (Observer.mk y_1.1 y_11.1)).getD default) == s_))) then
        some ((Observer.mk [] 0), false)
      else
        some ((Observer.mk y_1.1 y_11.1), true)

noncomputable def spec_l01Dec_l1 (n : Int) : ((List UInt8) × Int) → Option (((List UInt8) × Int) ⊕ (List UInt8))
  | (out, k) =>
    if (!(k == 0)) then
      ck (nz 10) <|
      if (decide ((k.tmod 10) < 0)) then
        ck (appOk (([(toU8 (IntKind.u8.wrap (IntKind.i64.wrap (48 + (IntKind.i64.wrap (0 - (k.tmod 10)))))))] : List UInt8).length + out.length) 1) <|
        some (.inl ((([(toU8 (IntKind.u8.wrap (IntKind.i64.wrap (48 + (IntKind.i64.wrap (0 - (k.tmod 10)))))))] : List UInt8) ++ out), (IntKind.i64.wrap (k.tdiv 10))))
      else
        ck (appOk (([(toU8 (IntKind.u8.wrap (IntKind.i64.wrap (48 + (k.tmod 10)))))] : List UInt8).length + out.length) 1) <|
        some (.inl ((([(toU8 (IntKind.u8.wrap (IntKind.i64.wrap (48 + (k.tmod 10)))))] : List UInt8) ++ out), (IntKind.i64.wrap (k.tdiv 10))))
    else
      some (.inr out)

/-- spec.l01Dec -/
noncomputable def spec_l01Dec (n : Int) : Option (List UInt8) :=
  (whileE (spec_l01Dec_l1 n) (([] : List UInt8), n)).bind fun y_6 =>
  if ((y_6.length : Int) == 0) then
    some ([48] : List UInt8)
  else
    if (decide (n < 0)) then
      ck (catOk ([45] : List UInt8).length y_6.length) <|
      some (([45] : List UInt8) ++ y_6)
    else
      some y_6

/-- spec.l05Text -/
noncomputable def spec_l05Text (x : Observer) : Option (List UInt8) :=
  if (decide (x.Shift < 0)) then
    ck (catOk x.Name.length ([32] : List UInt8).length) <|
    (spec_l01Dec x.Shift).bind fun y_3 =>
    ck (catOk (x.Name ++ ([32] : List UInt8)).length y_3.length) <|
    some ((x.Name ++ ([32] : List UInt8)) ++ y_3)
  else
    ck (catOk x.Name.length ([32, 43] : List UInt8).length) <|
    (spec_l01Dec x.Shift).bind fun y_6 =>
    ck (catOk (x.Name ++ ([32, 43] : List UInt8)).length y_6.length) <|
    some ((x.Name ++ ([32, 43] : List UInt8)) ++ y_6)

/-- spec.l01Spoil -/
noncomputable def spec_l01Spoil (s_ : L00Src) (t : List UInt8) : Option ((List UInt8) × L00Src) :=
  (spec_l00Src_pick s_ 5).bind fun y_1 =>
  if (y_1.1 == 0) then
    (spec_l00Src_pick y_1.2 (IntKind.i64.wrap ((t.length : Int) + 1))).bind fun y_3 =>
    ck (cutOk 0 y_3.1 t.length) <|
    (spec_l00Src_text y_3.2 ([([32] : List UInt8), ([48] : List UInt8), ([45] : List UInt8), ([120] : List UInt8), ([49] : List UInt8), ([57] : List UInt8), ([46] : List UInt8)] : List (List UInt8))).bind fun y_5 =>
    ck (catOk (cut t 0 y_3.1).length y_5.1.length) <|
    ck (cutOk y_3.1 (t.length : Int) t.length) <|
    ck (catOk ((cut t 0 y_3.1) ++ y_5.1).length (cut t y_3.1 (t.length : Int)).length) <|
    some ((((cut t 0 y_3.1) ++ y_5.1) ++ (cut t y_3.1 (t.length : Int))), y_5.2)
  else
    if (y_1.1 == 1) then
      if (!(t == ([] : List UInt8))) then
        (spec_l00Src_pick y_1.2 (t.length : Int)).bind fun y_11 =>
        ck (cutOk 0 y_11.1 t.length) <|
        ck (cutOk (IntKind.i64.wrap (y_11.1 + 1)) (t.length : Int) t.length) <|
        ck (catOk (cut t 0 y_11.1).length (cut t (IntKind.i64.wrap (y_11.1 + 1)) (t.length : Int)).length) <|
        some (((cut t 0 y_11.1) ++ (cut t (IntKind.i64.wrap (y_11.1 + 1)) (t.length : Int))), y_11.2)
      else
        some (t, y_1.2)
    else
      some (t, y_1.2)

/-- spec.DrawReadObserver -/
noncomputable def spec_DrawReadObserver (code : List UInt8) : Option (List UInt8) :=
  (spec_l00From code).bind fun y_1 =>
  (spec_l05Other y_1).bind fun y_2 =>
  (spec_l05Text y_2.1).bind fun y_3 =>
  (spec_l00Src_one y_2.2 3).bind fun y_4 =>
  if y_4.1 then
    (spec_l01Spoil y_4.2 y_3).bind fun y_6 =>
    some y_6.1
  else
    some y_3

noncomputable def spec_l01Split_l1 (s_ : List UInt8) (by_ : UInt8) : ((List (List UInt8)) × Int × Int) → Option (((List (List UInt8)) × Int × Int) ⊕ ((List (List UInt8)) × Int))
  | (out, from_, i) =>
    if (decide (i < (s_.length : Int))) then
      ck (ixOk i s_.length) <|
      if (((s_.getD i.toNat 0).toNat : Int) == (by_.toNat : Int)) then
        ck (cutOk from_ i s_.length) <|
        ck (appOk (out.length + ([(cut s_ from_ i)] : List (List UInt8)).length) 16) <|
        some (.inl ((out ++ ([(cut s_ from_ i)] : List (List UInt8))), (IntKind.i64.wrap (i + 1)), (IntKind.i64.wrap (i + 1))))
      else
        some (.inl (out, from_, (IntKind.i64.wrap (i + 1))))
    else
      some (.inr (out, from_))

/-- spec.l01Split -/
noncomputable def spec_l01Split (s_ : List UInt8) (by_ : UInt8) : Option (List (List UInt8)) :=
  (whileE (spec_l01Split_l1 s_ by_) (([] : List (List UInt8)), 0, 0)).bind fun y_6 =>
  ck (cutOk y_6.2 (s_.length : Int) s_.length) <|
  ck (appOk (y_6.1.length + ([(cut s_ y_6.2 (s_.length : Int))] : List (List UInt8)).length) 16) <|
  some (y_6.1 ++ ([(cut s_ y_6.2 (s_.length : Int))] : List (List UInt8)))

noncomputable def spec_l01Number_l1 (s_ : List UInt8) (t : List UInt8) : (Int × Int) → Option ((Int × Int) ⊕ (Int ⊕ (Int × Bool)))
  | (n, i) =>
    if (decide (i < (t.length : Int))) then
      ck (ixOk i t.length) <|
      (spec_l01Digit (t.getD i.toNat 0)).bind fun y_7 =>
      if (!y_7) then
        some (.inr (.inr (0, false)))
      else
        some (.inl ((IntKind.i64.wrap ((IntKind.i64.wrap (10 * n)) + (IntKind.i64.wrap (IntKind.u8.wrap (((t.getD i.toNat 0).toNat : Int) - 48))))), (IntKind.i64.wrap (i + 1))))
    else
      some (.inr (.inl n))

noncomputable def spec_l01Number_l2 (s_ : List UInt8) (t : List UInt8) : (Int × Int) → Option ((Int × Int) ⊕ (Int ⊕ (Int × Bool)))
  | (n, i) =>
    if (decide (i < (t.length : Int))) then
      ck (ixOk i t.length) <|
      (spec_l01Digit (t.getD i.toNat 0)).bind fun y_18 =>
      if (!y_18) then
        some (.inr (.inr (0, false)))
      else
        some (.inl ((IntKind.i64.wrap ((IntKind.i64.wrap (10 * n)) + (IntKind.i64.wrap (IntKind.u8.wrap (((t.getD i.toNat 0).toNat : Int) - 48))))), (IntKind.i64.wrap (i + 1))))
    else
      some (.inr (.inl n))

/-- spec.l01Number -/
noncomputable def spec_l01Number (s_ : List UInt8) : Option (Int × Bool) :=
  ck (!(!(s_ == ([] : List UInt8))) || ixOk 0 s_.length) <|
  if ((!(s_ == ([] : List UInt8))) && (((s_.getD 0 0).toNat : Int) == 45)) then
    ck (cutOk 1 (s_.length : Int) s_.length) <|
    if ((decide (((cut s_ 1 (s_.length : Int)).length : Int) < 1)) || (decide (18 < ((cut s_ 1 (s_.length : Int)).length : Int)))) then
      some (0, false)
    else
      (whileE (spec_l01Number_l1 s_ (cut s_ 1 (s_.length : Int))) (0, 0)).bind fun y_9 =>
      match y_9 with
      | .inl y_9a =>
        if (decide (((cut s_ 1 (s_.length : Int)).length : Int) < (s_.length : Int))) then
          (spec_l01Dec (IntKind.i64.wrap (0 - y_9a))).bind fun y_11 =>
          if (!(y_11 == s_)) then
            some (0, false)
          else
            some ((IntKind.i64.wrap (0 - y_9a)), true)
        else
          (spec_l01Dec y_9a).bind fun y_13 =>
          if (!(y_13 == s_)) then
            some (0, false)
          else
            some (y_9a, true)
      | .inr y_9b =>
        some (y_9b.1, y_9b.2)
  else
    if ((decide ((s_.length : Int) < 1)) || (decide (18 < (s_.length : Int)))) then
      some (0, false)
    else
      (whileE (spec_l01Number_l2 s_ s_) (0, 0)).bind fun y_20 =>
      match y_20 with
      | .inl y_20a =>
        if (decide ((s_.length : Int) < (s_.length : Int))) then
          (spec_l01Dec (IntKind.i64.wrap (0 - y_20a))).bind fun y_22 =>
          if (!(y_22 == s_)) then
            some (0, false)
          else
            some ((IntKind.i64.wrap (0 - y_20a)), true)
        else
          (spec_l01Dec y_20a).bind fun y_24 =>
          if (!(y_24 == s_)) then
            some (0, false)
          else
            some (y_20a, true)
      | .inr y_20b =>
        some (y_20b.1, y_20b.2)

/-- spec.ReadObserver -/
noncomputable def spec_ReadObserver (s_ : List UInt8) : Option (Observer × Bool) :=
  (spec_l01Split s_ (32 : UInt8)).bind fun y_1 =>
  ck (!(!(!((y_1.length : Int) == 2))) || ixOk 1 y_1.length) <|
  if ((!((y_1.length : Int) == 2)) || (decide (((y_1.getD 1 default).length : Int) < 2))) then
    some ((Observer.mk [] 0), false)
  else
    ck (ixOk 1 y_1.length) <|
    ck (ixOk 0 ((y_1.getD 1 default).length)) <|
    if ((((y_1.getD 1 default).getD 0 0).toNat : Int) == 43) then
      ck (cutOk 1 ((y_1.getD 1 default).length : Int) ((y_1.getD 1 default).length)) <|
      (spec_l01Number (cut (y_1.getD 1 default) 1 ((y_1.getD 1 default).length : Int))).bind fun y_8 =>
      ck (ixOk 0 y_1.length) <|
      ck (!(!((!y_8.2) || (((((y_1.getD 1 default).getD 0 0).toNat : Int) == 43) && (decide (y_8.1 < 0))))) || (spec_l05One (Observer.mk (y_1.getD 0 default) y_8.1)).isSome) <|
      if (((!y_8.2) || (((((y_1.getD 1 default).getD 0 0).toNat : Int) == 43) && (decide (y_8.1 < 0)))) || (!((spec_l05One (Observer.mk (y_1.getD 0 default) y_8.1)).getD default))) then
        some ((Observer.mk [] 0), false)
      else
        some ((Observer.mk (y_1.getD 0 default) y_8.1), true)
    else
      if (!((((y_1.getD 1 default).getD 0 0).toNat : Int) == 45)) then
        some ((Observer.mk [] 0), false)
      else
        (spec_l01Number (y_1.getD 1 default)).bind fun y_13 =>
        ck (ixOk 0 y_1.length) <|
        ck (!(!((!y_13.2) || (((((y_1.getD 1 default).getD 0 0).toNat : Int) == 43) && (decide (y_13.1 < 0))))) || (spec_l05One (Observer.mk (y_1.getD 0 default) y_13.1)).isSome) <|
        if (((!y_13.2) || (((((y_1.getD 1 default).getD 0 0).toNat : Int) == 43) && (decide (y_13.1 < 0)))) || (!((spec_l05One (Observer.mk (y_1.getD 0 default) y_13.1)).getD default))) then
          some ((Observer.mk [] 0), false)
        else
          some ((Observer.mk (y_1.getD 0 default) y_13.1), true)

/-- spec.DrawSameObservers -/
noncomputable def spec_DrawSameObservers (code : List UInt8) : Option ((List Observer) × (List Observer)) :=
  (spec_l00From code).bind fun y_1 =>
  (spec_l05Draw y_1).bind fun y_2 =>
  ck (appOk (([] : List Observer).length + y_2.1.length) 24) <|
  if (decide (0 < ((([] : List Observer) ++ y_2.1).length : Int))) then
    (spec_l00Src_one y_2.2 2).bind fun y_5 =>
    if ((decide (0 < ((([] : List Observer) ++ y_2.1).length : Int))) && y_5.1) then
      ck (ixOk 0 ((([] : List Observer) ++ y_2.1).length)) <|
      (spec_l00Src_pick y_5.2 2).bind fun y_8 =>
      (spec_l00Src_one y_8.2 5).bind fun y_9 =>
      if y_9.1 then
        ck (appOk (((([] : List Observer) ++ y_2.1).set 0 (Observer.mk (((([] : List Observer) ++ y_2.1).getD 0 default).Name) (IntKind.i64.wrap ((((([] : List Observer) ++ y_2.1).getD 0 default).Shift) + y_8.1)))).length + ([(Observer.mk [] 0)] : List Observer).length) 24) <|
        some (y_2.1, (((([] : List Observer) ++ y_2.1).set 0 (Observer.mk (((([] : List Observer) ++ y_2.1).getD 0 default).Name) (IntKind.i64.wrap ((((([] : List Observer) ++ y_2.1).getD 0 default).Shift) + y_8.1)))) ++ ([(Observer.mk [] 0)] : List Observer)))
      else
        some (y_2.1, ((([] : List Observer) ++ y_2.1).set 0 (Observer.mk (((([] : List Observer) ++ y_2.1).getD 0 default).Name) (IntKind.i64.wrap ((((([] : List Observer) ++ y_2.1).getD 0 default).Shift) + y_8.1)))))
    else
      (spec_l00Src_one y_5.2 5).bind fun y_12 =>
      if y_12.1 then
        ck (appOk ((([] : List Observer) ++ y_2.1).length + ([(Observer.mk [] 0)] : List Observer).length) 24) <|
        some (y_2.1, ((([] : List Observer) ++ y_2.1) ++ ([(Observer.mk [] 0)] : List Observer)))
      else
        some (y_2.1, (([] : List Observer) ++ y_2.1))
  else
    (spec_l00Src_one y_2.2 5).bind fun y_15 =>
    if y_15.1 then
      ck (appOk ((([] : List Observer) ++ y_2.1).length + ([(Observer.mk [] 0)] : List Observer).length) 24) <|
      some (y_2.1, ((([] : List Observer) ++ y_2.1) ++ ([(Observer.mk [] 0)] : List Observer)))
    else
      some (y_2.1, (([] : List Observer) ++ y_2.1))

noncomputable def spec_SameObservers_l1 (a : List Observer) (b : List Observer) : Int → Option (Int ⊕ (Unit ⊕ Bool))
  | i =>
    if (decide (i < (a.length : Int))) then
      ck (ixOk i a.length) <|
      ck (ixOk i b.length) <|
      if (!((((a.getD i.toNat default).Name) == ((b.getD i.toNat default).Name)) && (((a.getD i.toNat default).Shift) == ((b.getD i.toNat default).Shift)))) then
        some (.inr (.inr false))
      else
        some (.inl (IntKind.i64.wrap (i + 1)))
    else
      some (.inr (.inl ()))

/-- spec.SameObservers -/
noncomputable def spec_SameObservers (a : List Observer) (b : List Observer) : Option Bool :=
  if (!((a.length : Int) == (b.length : Int))) then
    some false
  else
    (whileE (spec_SameObservers_l1 a b) 0).bind fun y_6 =>
    match y_6 with
    | .inl y_6a =>
      some true
    | .inr y_6b =>
      some y_6b

/-- spec.ObserverText -/
noncomputable def spec_ObserverText (x : Observer) : Option (List UInt8) :=
  (spec_l05One x).bind fun y_1 =>
  if (!y_1) then
    some ([] : List UInt8)
  else
    (spec_l05Text x).bind fun y_3 =>
    some y_3

noncomputable def slices_Equal_impl_Observer_impl_Observer_l1 (s1 : List Observer) (s2 : List Observer) (t12 : Int) : Int → Option (Int ⊕ (Unit ⊕ Bool))
  | t13 =>
    if (decide (t13 < t12)) then
      ck (ixOk t13 s1.length) <|
      ck (ixOk t13 s2.length) <|
      if (!((((s1.getD t13.toNat default).Name) == ((s2.getD t13.toNat default).Name)) && (((s1.getD t13.toNat default).Shift) == ((s2.getD t13.toNat default).Shift)))) then
        some (.inr (.inr false))
      else
        some (.inl (IntKind.i64.wrap (t13 + 1)))
    else
      some (.inr (.inl ()))

/-- slices.Equal[[]impl.Observer,impl.Observer] -/
noncomputable def slices_Equal_impl_Observer_impl_Observer (s1 : List Observer) (s2 : List Observer) : Option Bool :=
  if (!((s1.length : Int) == (s2.length : Int))) then
    some false
  else
    (whileE (slices_Equal_impl_Observer_impl_Observer_l1 s1 s2 (s1.length : Int)) 0).bind fun y_6 =>
    match y_6 with
    | .inl y_6a =>
      some true
    | .inr y_6b =>
      some y_6b

/-- impl.SameObservers -/
noncomputable def impl_SameObservers (a : List Observer) (b : List Observer) : Option Bool :=
  (slices_Equal_impl_Observer_impl_Observer a b).bind fun y_1 =>
  some y_1

/-- spec.ValidObservers -/
noncomputable def spec_ValidObservers (list : List Observer) : Option Bool :=
  (spec_l05Ok list).bind fun y_1 =>
  some y_1

/-- laws.FnObserverLists -/
noncomputable def laws_FnObserverLists (code : List UInt8) : Option Bool :=
  (laws_f6big code).bind fun y_1 =>
  if y_1 then
    some true
  else
    (spec_DrawAddObserver code).bind fun y_3 =>
    (impl_AddObserver y_3.1 y_3.2).bind fun y_4 =>
    (spec_AddObserver y_3.1 y_3.2).bind fun y_5 =>
    (spec_DrawObserverNamed code).bind fun y_6 =>
    (impl_ObserverNamed y_6.1 y_6.2).bind fun y_7 =>
    (spec_ObserverNamed y_6.1 y_6.2).bind fun y_8 =>
    (spec_DrawCorrectMag code).bind fun y_9 =>
    (impl_CorrectMag y_9.1 y_9.2.1 y_9.2.2).bind fun y_10 =>
    (spec_CorrectMag y_9.1 y_9.2.1 y_9.2.2).bind fun y_11 =>
    (spec_DrawApplyShifts code).bind fun y_12 =>
    (impl_ApplyShifts y_12.1 y_12.2).bind fun y_13 =>
    (spec_ApplyShifts y_12.1 y_12.2).bind fun y_14 =>
    (spec_DrawObserverText code).bind fun y_15 =>
    (impl_ObserverText y_15).bind fun y_16 =>
    (impl_ReadObserver y_16).bind fun y_17 =>
    (spec_DrawReadObserver code).bind fun y_18 =>
    (impl_ReadObserver y_18).bind fun y_19 =>
    (spec_ReadObserver y_18).bind fun y_20 =>
    (spec_DrawSameObservers code).bind fun y_21 =>
    ck (!(!(!(y_4.2 == y_5.2))) || (spec_SameObservers y_4.1 y_5.1).isSome) <|
    ck (!(!(((((((!(y_4.2 == y_5.2)) || (!((spec_SameObservers y_4.1 y_5.1).getD default))) || (!(y_7.2 == y_8.2))) || (!(y_7.1 == y_8.1))) || (!(y_10.2 == y_11.2))) || (!(y_10.1 == y_11.1))) || (!(y_13.2 == y_14.2)))) || (spec_SameObservers y_13.1 y_14.1).isSome) <|
    ck (!(!((((((((!(y_4.2 == y_5.2)) || (!((spec_SameObservers y_4.1 y_5.1).getD default))) || (!(y_7.2 == y_8.2))) || (!(y_7.1 == y_8.1))) || (!(y_10.2 == y_11.2))) || (!(y_10.1 == y_11.1))) || (!(y_13.2 == y_14.2))) || (!((spec_SameObservers y_13.1 y_14.1).getD default)))) || (spec_ObserverText y_15).isSome) <|
    ck (!(!(((((((((((((!(y_4.2 == y_5.2)) || (!((spec_SameObservers y_4.1 y_5.1).getD default))) || (!(y_7.2 == y_8.2))) || (!(y_7.1 == y_8.1))) || (!(y_10.2 == y_11.2))) || (!(y_10.1 == y_11.1))) || (!(y_13.2 == y_14.2))) || (!((spec_SameObservers y_13.1 y_14.1).getD default))) || (!(y_16 == ((spec_ObserverText y_15).getD default)))) || (!(y_17.2 == (!(y_16 == ([] : List UInt8)))))) || (y_17.2 && (!((y_17.1.Name == y_15.Name) && (y_17.1.Shift == y_15.Shift))))) || (!(y_19.2 == y_20.2))) || (!((y_19.1.Name == y_20.1.Name) && (y_19.1.Shift == y_20.1.Shift))))) || (impl_SameObservers y_21.1 y_21.2).isSome) <|
    ck (!(!(((((((((((((!(y_4.2 == y_5.2)) || (!((spec_SameObservers y_4.1 y_5.1).getD default))) || (!(y_7.2 == y_8.2))) || (!(y_7.1 == y_8.1))) || (!(y_10.2 == y_11.2))) || (!(y_10.1 == y_11.1))) || (!(y_13.2 == y_14.2))) || (!((spec_SameObservers y_13.1 y_14.1).getD default))) || (!(y_16 == ((spec_ObserverText y_15).getD default)))) || (!(y_17.2 == (!(y_16 == ([] : List UInt8)))))) || (y_17.2 && (!((y_17.1.Name == y_15.Name) && (y_17.1.Shift == y_15.Shift))))) || (!(y_19.2 == y_20.2))) || (!((y_19.1.Name == y_20.1.Name) && (y_19.1.Shift == y_20.1.Shift))))) || (spec_SameObservers y_21.1 y_21.2).isSome) <|
    ck (!(!((((((((((((((!(y_4.2 == y_5.2)) || (!((spec_SameObservers y_4.1 y_5.1).getD default))) || (!(y_7.2 == y_8.2))) || (!(y_7.1 == y_8.1))) || (!(y_10.2 == y_11.2))) || (!(y_10.1 == y_11.1))) || (!(y_13.2 == y_14.2))) || (!((spec_SameObservers y_13.1 y_14.1).getD default))) || (!(y_16 == ((spec_ObserverText y_15).getD default)))) || (!(y_17.2 == (!(y_16 == ([] : List UInt8)))))) || (y_17.2 && (!((y_17.1.Name == y_15.Name) && (y_17.1.Shift == y_15.Shift))))) || (!(y_19.2 == y_20.2))) || (!((y_19.1.Name == y_20.1.Name) && (y_19.1.Shift == y_20.1.Shift)))) || (!(((impl_SameObservers y_21.1 y_21.2).getD default) == ((spec_SameObservers y_21.1 y_21.2).getD default))))) || (impl_ValidObservers y_3.1).isSome) <|
    ck (!(!((((((((((((((!(y_4.2 == y_5.2)) || (!((spec_SameObservers y_4.1 y_5.1).getD default))) || (!(y_7.2 == y_8.2))) || (!(y_7.1 == y_8.1))) || (!(y_10.2 == y_11.2))) || (!(y_10.1 == y_11.1))) || (!(y_13.2 == y_14.2))) || (!((spec_SameObservers y_13.1 y_14.1).getD default))) || (!(y_16 == ((spec_ObserverText y_15).getD default)))) || (!(y_17.2 == (!(y_16 == ([] : List UInt8)))))) || (y_17.2 && (!((y_17.1.Name == y_15.Name) && (y_17.1.Shift == y_15.Shift))))) || (!(y_19.2 == y_20.2))) || (!((y_19.1.Name == y_20.1.Name) && (y_19.1.Shift == y_20.1.Shift)))) || (!(((impl_SameObservers y_21.1 y_21.2).getD default) == ((spec_SameObservers y_21.1 y_21.2).getD default))))) || (spec_ValidObservers y_3.1).isSome) <|
    if (((((((((((((((!(y_4.2 == y_5.2)) || (!((spec_SameObservers y_4.1 y_5.1).getD default))) || (!(y_7.2 == y_8.2))) || (!(y_7.1 == y_8.1))) || (!(y_10.2 == y_11.2))) || (!(y_10.1 == y_11.1))) || (!(y_13.2 == y_14.2))) || (!((spec_SameObservers y_13.1 y_14.1).getD default))) || (!(y_16 == ((spec_ObserverText y_15).getD default)))) || (!(y_17.2 == (!(y_16 == ([] : List UInt8)))))) || (y_17.2 && (!((y_17.1.Name == y_15.Name) && (y_17.1.Shift == y_15.Shift))))) || (!(y_19.2 == y_20.2))) || (!((y_19.1.Name == y_20.1.Name) && (y_19.1.Shift == y_20.1.Shift)))) || (!(((impl_SameObservers y_21.1 y_21.2).getD default) == ((spec_SameObservers y_21.1 y_21.2).getD default)))) || (!(((impl_ValidObservers y_3.1).getD default) == ((spec_ValidObservers y_3.1).getD default)))) then
      some false
    else
      if (!(y_4.2 == 0)) then
        some true
      else
        (impl_ObserverNamed y_4.1 y_3.2.Name).bind fun y_31 =>
        (impl_CorrectMag y_4.1 y_3.2.Name 9000).bind fun y_32 =>
        ck (!(((y_31.2 == 0) && (decide (0 ≤ y_31.1))) && (decide (y_31.1 < (y_5.1.length : Int)))) || ixOk y_31.1 y_5.1.length) <|
        ck (!((((((y_31.2 == 0) && (decide (0 ≤ y_31.1))) && (decide (y_31.1 < (y_5.1.length : Int)))) && ((((y_5.1.getD y_31.1.toNat default).Name) == y_3.2.Name) && (((y_5.1.getD y_31.1.toNat default).Shift) == y_3.2.Shift))) && (y_32.2 == 0)) && (y_32.1 == (IntKind.i64.wrap (9000 + y_3.2.Shift)))) || (impl_ValidObservers y_4.1).isSome) <|
        some (((((((y_31.2 == 0) && (decide (0 ≤ y_31.1))) && (decide (y_31.1 < (y_5.1.length : Int)))) && ((((y_5.1.getD y_31.1.toNat default).Name) == y_3.2.Name) && (((y_5.1.getD y_31.1.toNat default).Shift) == y_3.2.Shift))) && (y_32.2 == 0)) && (y_32.1 == (IntKind.i64.wrap (9000 + y_3.2.Shift)))) && ((impl_ValidObservers y_4.1).getD default))

end Go.Proofs.YtegelahoakkaaaaGreatDoor
