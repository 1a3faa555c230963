/- Typed forms of the functions that SV reaches. No condition. -/
import Derived.Test.YtibabbjpkjmdeaaEngSH
namespace Go.Proofs.Ytibabbjpkjmdeaa
open Go Go.RowKit
set_option linter.unusedVariables false

structure Request where
  Star : List UInt8
  From : Int
  To : Int
  Wanted : Int
  Done : Int
  Priority : Int
  deriving Inhabited, DecidableEq
def Request_av (x : Request) : AV := .agg ([.str x.Star, .int .i64 x.From, .int .i64 x.To, .int .i64 x.Wanted, .int .i64 x.Done, .int .i64 x.Priority])

structure L00Src where
  code_ : List UInt8
  at_ : Int
  seed_ : Int
  deriving Inhabited, DecidableEq
def L00Src_av (x : L00Src) : AV := .agg ([.sl 1 (List.map byteAV x.code_), .int .i64 x.at_, .int .u64 x.seed_])

structure Estimate where
  Time : Int
  Star : List UInt8
  Observer : List UInt8
  Mag : Int
  Fainter : Bool
  deriving Inhabited, DecidableEq
def Estimate_av (x : Estimate) : AV := .agg ([.int .i64 x.Time, .str x.Star, .str x.Observer, .int .i64 x.Mag, .bool x.Fainter])

structure Fraction where
  Num : Int
  Den : Int
  deriving Inhabited, DecidableEq
def Fraction_av (x : Fraction) : AV := .agg ([.int .i64 x.Num, .int .i64 x.Den])

attribute [go_sem] Request_av L00Src_av Estimate_av Fraction_av

/-- laws.f6big -/
noncomputable def laws_f6big (code : List UInt8) : Option Bool :=
  some (decide (4096 < (code.length : Int)))

/-- spec.l00From -/
noncomputable def spec_l00From (code : List UInt8) : Option L00Src :=
  some (L00Src.mk code 0 0)

/-- (*spec.l00Src).next -/
noncomputable def spec_l00Src_next (s_ : L00Src) : Option (Int × L00Src) :=
  if (decide (s_.at_ < (s_.code_.length : Int))) then
    ck (ixOk s_.at_ s_.code_.length) <|
    if (decide ((IntKind.i64.wrap (s_.at_ + 1)) ≤ (s_.code_.length : Int))) then
      some (((s_.code_.getD s_.at_.toNat default).toNat : Int), (L00Src.mk s_.code_ (IntKind.i64.wrap (s_.at_ + 1)) (IntKind.u64.wrap ((IntKind.u64.wrap ((IntKind.u64.wrap (s_.seed_ * 6364136223846793005)) + (IntKind.u64.wrap ((s_.code_.getD s_.at_.toNat default).toNat : Int)))) + 1442695040888963407))))
    else
      ck (shOk 40) <|
      some ((IntKind.i64.wrap (IntKind.u64.wrap (BitVec.ofInt (IntKind.bits .u64) ((IntKind.u64.wrap ((IntKind.u64.wrap ((IntKind.u64.wrap (s_.seed_ * 6364136223846793005)) + (IntKind.u64.wrap ((s_.code_.getD s_.at_.toNat default).toNat : Int)))) + 1442695040888963407)).fdiv (2 ^ (min 40 64))) &&& BitVec.ofInt (IntKind.bits .u64) 255).toNat)), (L00Src.mk s_.code_ (IntKind.i64.wrap (s_.at_ + 1)) (IntKind.u64.wrap ((IntKind.u64.wrap ((IntKind.u64.wrap (s_.seed_ * 6364136223846793005)) + (IntKind.u64.wrap ((s_.code_.getD s_.at_.toNat default).toNat : Int)))) + 1442695040888963407))))
  else
    if (decide ((IntKind.i64.wrap (s_.at_ + 1)) ≤ (s_.code_.length : Int))) then
      some (0, (L00Src.mk s_.code_ (IntKind.i64.wrap (s_.at_ + 1)) (IntKind.u64.wrap ((IntKind.u64.wrap ((IntKind.u64.wrap (s_.seed_ * 6364136223846793005)) + (IntKind.u64.wrap 0))) + 1442695040888963407))))
    else
      ck (shOk 40) <|
      some ((IntKind.i64.wrap (IntKind.u64.wrap (BitVec.ofInt (IntKind.bits .u64) ((IntKind.u64.wrap ((IntKind.u64.wrap ((IntKind.u64.wrap (s_.seed_ * 6364136223846793005)) + (IntKind.u64.wrap 0))) + 1442695040888963407)).fdiv (2 ^ (min 40 64))) &&& BitVec.ofInt (IntKind.bits .u64) 255).toNat)), (L00Src.mk s_.code_ (IntKind.i64.wrap (s_.at_ + 1)) (IntKind.u64.wrap ((IntKind.u64.wrap ((IntKind.u64.wrap (s_.seed_ * 6364136223846793005)) + (IntKind.u64.wrap 0))) + 1442695040888963407))))

/-- (*spec.l00Src).pick -/
noncomputable def spec_l00Src_pick (s_ : L00Src) (n : Int) : Option (Int × L00Src) :=
  if (decide (n ≤ 1)) then
    some (0, s_)
  else
    (spec_l00Src_next s_).bind fun y_2 =>
    if (decide (200 < n)) then
      (spec_l00Src_next y_2.2).bind fun y_4 =>
      ck (nz n) <|
      some (((IntKind.i64.wrap ((IntKind.i64.wrap (y_2.1 * 256)) + y_4.1)).tmod n), y_4.2)
    else
      ck (nz n) <|
      some ((y_2.1.tmod n), y_2.2)

/-- (*spec.l00Src).one -/
noncomputable def spec_l00Src_one (s_ : L00Src) (n : Int) : Option (Bool × L00Src) :=
  (spec_l00Src_pick s_ n).bind fun y_1 =>
  some ((y_1.1 == 0), y_1.2)

/-- (*spec.l00Src).text -/
noncomputable def spec_l00Src_text (s_ : L00Src) (list : List (List UInt8)) : Option ((List UInt8) × L00Src) :=
  (spec_l00Src_pick s_ (list.length : Int)).bind fun y_1 =>
  ck (ixOk y_1.1 list.length) <|
  some ((list.getD y_1.1.toNat default), y_1.2)

/-- spec.l22New -/
noncomputable def spec_l22New (s_ : L00Src) : Option (Request × L00Src) :=
  (spec_l00Src_text s_ ([([109, 105, 114, 97] : List UInt8), ([114, 114, 45, 108, 121, 114] : List UInt8), ([115, 115, 45, 99, 121, 103] : List UInt8)] : List (List UInt8))).bind fun y_1 =>
  (spec_l00Src_pick y_1.2 25).bind fun y_2 =>
  (spec_l00Src_pick y_2.2 15).bind fun y_3 =>
  (spec_l00Src_pick y_3.2 5).bind fun y_4 =>
  (spec_l00Src_pick y_4.2 (IntKind.i64.wrap ((IntKind.i64.wrap (1 + y_4.1)) + 1))).bind fun y_5 =>
  (spec_l00Src_pick y_5.2 5).bind fun y_6 =>
  some ((Request.mk y_1.1 (IntKind.i64.wrap (1000 * y_2.1)) (IntKind.i64.wrap ((IntKind.i64.wrap (1000 * y_2.1)) + (IntKind.i64.wrap (1000 * y_3.1)))) (IntKind.i64.wrap (1 + y_4.1)) y_5.1 (IntKind.i64.wrap (1 + y_6.1))), y_6.2)

/-- (*spec.l00Src).among -/
noncomputable def spec_l00Src_among (s_ : L00Src) (list : List Int) : Option (Int × L00Src) :=
  (spec_l00Src_pick s_ (list.length : Int)).bind fun y_1 =>
  ck (ixOk y_1.1 list.length) <|
  some ((list.getD y_1.1.toNat default), y_1.2)

/-- spec.l22Spoil -/
noncomputable def spec_l22Spoil_ix1 (s_ : L00Src) (x : List Request) (x_ix : Int) : Option (L00Src × (List Request)) :=
  ck (ixOk x_ix x.length) <|
  (spec_l00Src_pick s_ 5).bind fun y_2 =>
  if (y_2.1 == 0) then
    (spec_l00Src_text y_2.2 ([([] : List UInt8), ([77, 105, 114, 97] : List UInt8), ([120] : List UInt8)] : List (List UInt8))).bind fun y_4 =>
    ck ((x.set x_ix.toNat (Request.mk y_4.1 ((x.getD x_ix.toNat default).From) ((x.getD x_ix.toNat default).To) ((x.getD x_ix.toNat default).Wanted) ((x.getD x_ix.toNat default).Done) ((x.getD x_ix.toNat default).Priority))).length == x.length) <|
    some (y_4.2, (x.set x_ix.toNat (Request.mk y_4.1 ((x.getD x_ix.toNat default).From) ((x.getD x_ix.toNat default).To) ((x.getD x_ix.toNat default).Wanted) ((x.getD x_ix.toNat default).Done) ((x.getD x_ix.toNat default).Priority))))
  else
    if (y_2.1 == 1) then
      (spec_l00Src_among y_2.2 ([(-1), 0, (x.getD x_ix.toNat default).To, (IntKind.i64.wrap (((x.getD x_ix.toNat default).To) + 1))] : List Int)).bind fun y_7 =>
      ck ((x.set x_ix.toNat (Request.mk ((x.getD x_ix.toNat default).Star) y_7.1 ((x.getD x_ix.toNat default).To) ((x.getD x_ix.toNat default).Wanted) ((x.getD x_ix.toNat default).Done) ((x.getD x_ix.toNat default).Priority))).length == x.length) <|
      some (y_7.2, (x.set x_ix.toNat (Request.mk ((x.getD x_ix.toNat default).Star) y_7.1 ((x.getD x_ix.toNat default).To) ((x.getD x_ix.toNat default).Wanted) ((x.getD x_ix.toNat default).Done) ((x.getD x_ix.toNat default).Priority))))
    else
      if (y_2.1 == 2) then
        (spec_l00Src_among y_2.2 ([(-1), 10000000, 10000001] : List Int)).bind fun y_10 =>
        ck ((x.set x_ix.toNat (Request.mk ((x.getD x_ix.toNat default).Star) ((x.getD x_ix.toNat default).From) y_10.1 ((x.getD x_ix.toNat default).Wanted) ((x.getD x_ix.toNat default).Done) ((x.getD x_ix.toNat default).Priority))).length == x.length) <|
        some (y_10.2, (x.set x_ix.toNat (Request.mk ((x.getD x_ix.toNat default).Star) ((x.getD x_ix.toNat default).From) y_10.1 ((x.getD x_ix.toNat default).Wanted) ((x.getD x_ix.toNat default).Done) ((x.getD x_ix.toNat default).Priority))))
      else
        if (y_2.1 == 3) then
          (spec_l00Src_among y_2.2 ([0, (x.getD x_ix.toNat default).Done, 100, 101, (-9223372036854775808)] : List Int)).bind fun y_13 =>
          ck ((x.set x_ix.toNat (Request.mk ((x.getD x_ix.toNat default).Star) ((x.getD x_ix.toNat default).From) ((x.getD x_ix.toNat default).To) y_13.1 ((x.getD x_ix.toNat default).Done) ((x.getD x_ix.toNat default).Priority))).length == x.length) <|
          some (y_13.2, (x.set x_ix.toNat (Request.mk ((x.getD x_ix.toNat default).Star) ((x.getD x_ix.toNat default).From) ((x.getD x_ix.toNat default).To) y_13.1 ((x.getD x_ix.toNat default).Done) ((x.getD x_ix.toNat default).Priority))))
        else
          if (y_2.1 == 4) then
            (spec_l00Src_among y_2.2 ([0, 1, 5, 6] : List Int)).bind fun y_16 =>
            ck ((x.set x_ix.toNat (Request.mk ((x.getD x_ix.toNat default).Star) ((x.getD x_ix.toNat default).From) ((x.getD x_ix.toNat default).To) ((x.getD x_ix.toNat default).Wanted) ((x.getD x_ix.toNat default).Done) y_16.1)).length == x.length) <|
            some (y_16.2, (x.set x_ix.toNat (Request.mk ((x.getD x_ix.toNat default).Star) ((x.getD x_ix.toNat default).From) ((x.getD x_ix.toNat default).To) ((x.getD x_ix.toNat default).Wanted) ((x.getD x_ix.toNat default).Done) y_16.1)))
          else
            some (y_2.2, x)

noncomputable def spec_l22Bent_l1  : (L00Src × (List Request) × Int) → Option ((L00Src × (List Request) × Int) ⊕ (L00Src × (List Request)))
  | (s_, list, k) =>
    if (decide (0 < k)) then
      (spec_l22New s_).bind fun y_6 =>
      ck (appOk (list.length + ([y_6.1] : List Request).length) 56) <|
      some (.inl (y_6.2, (list ++ ([y_6.1] : List Request)), (IntKind.i64.wrap (k - 1))))
    else
      some (.inr (s_, list))

noncomputable def spec_l22Bent_l2  : (L00Src × (List Request) × Int) → Option ((L00Src × (List Request) × Int) ⊕ (L00Src × (List Request)))
  | (s_, list, k) =>
    if (decide (0 < k)) then
      (spec_l22New s_).bind fun y_16 =>
      ck (appOk (list.length + ([y_16.1] : List Request).length) 56) <|
      some (.inl (y_16.2, (list ++ ([y_16.1] : List Request)), (IntKind.i64.wrap (k - 1))))
    else
      some (.inr (s_, list))

/-- spec.l22Bent -/
noncomputable def spec_l22Bent (s_ : L00Src) : Option ((List Request) × L00Src) :=
  (spec_l00Src_pick s_ 7).bind fun y_1 =>
  (spec_l00Src_one y_1.2 24).bind fun y_2 =>
  if y_2.1 then
    (spec_l00Src_pick y_2.2 2).bind fun y_4 =>
    (whileE (spec_l22Bent_l1) (y_4.2, ([] : List Request), (IntKind.i64.wrap (30 + y_4.1)))).bind fun y_8 =>
    if (decide (0 < (y_8.2.length : Int))) then
      (spec_l00Src_one y_8.1 8).bind fun y_10 =>
      if ((decide (0 < (y_8.2.length : Int))) && y_10.1) then
        (spec_l00Src_pick y_10.2 (y_8.2.length : Int)).bind fun y_12 =>
        ck (ixOk y_12.1 y_8.2.length) <|
        (spec_l22Spoil_ix1 y_12.2 y_8.2 y_12.1).bind fun y_14 =>
        some (y_14.2, y_14.1)
      else
        some (y_8.2, y_10.2)
    else
      some (y_8.2, y_8.1)
  else
    (whileE (spec_l22Bent_l2) (y_2.2, ([] : List Request), y_1.1)).bind fun y_18 =>
    if (decide (0 < (y_18.2.length : Int))) then
      (spec_l00Src_one y_18.1 8).bind fun y_20 =>
      if ((decide (0 < (y_18.2.length : Int))) && y_20.1) then
        (spec_l00Src_pick y_20.2 (y_18.2.length : Int)).bind fun y_22 =>
        ck (ixOk y_22.1 y_18.2.length) <|
        (spec_l22Spoil_ix1 y_22.2 y_18.2 y_22.1).bind fun y_24 =>
        some (y_24.2, y_24.1)
      else
        some (y_18.2, y_20.2)
    else
      some (y_18.2, y_18.1)

/-- spec.l06Name -/
noncomputable def spec_l06Name (s_ : L00Src) : Option ((List UInt8) × L00Src) :=
  (spec_l00Src_text s_ ([([109, 105, 114, 97] : List UInt8), ([114, 114, 45, 108, 121, 114] : List UInt8), ([115, 115, 45, 99, 121, 103] : List UInt8), ([110, 111, 110, 101] : List UInt8), ([] : List UInt8), ([97, 98] : List UInt8), ([99, 100] : List UInt8)] : List (List UInt8))).bind fun y_1 =>
  some (y_1.1, y_1.2)

/-- spec.l06When -/
noncomputable def spec_l06When (s_ : L00Src) : Option (Int × L00Src) :=
  (spec_l00Src_one s_ 12).bind fun y_1 =>
  if y_1.1 then
    (spec_l00Src_among y_1.2 ([(-1), 0, 10000000, 10000001] : List Int)).bind fun y_3 =>
    some (y_3.1, y_3.2)
  else
    (spec_l00Src_pick y_1.2 33).bind fun y_4 =>
    some ((IntKind.i64.wrap (1000 * y_4.1)), y_4.2)

/-- spec.DrawServeRequests -/
noncomputable def spec_DrawServeRequests (code : List UInt8) : Option ((List Request) × (List UInt8) × Int) :=
  (spec_l00From code).bind fun y_1 =>
  (spec_l22Bent y_1).bind fun y_2 =>
  (spec_l06Name y_2.2).bind fun y_3 =>
  (spec_l06When y_3.2).bind fun y_4 =>
  some (y_2.1, y_3.1, y_4.1)

/-- impl.in -/
noncomputable def impl_in (n : Int) (low : Int) (high : Int) : Option Bool :=
  some ((decide (low ≤ n)) && (decide (n ≤ high)))

/-- impl.ValidTime -/
noncomputable def impl_ValidTime (t : Int) : Option Bool :=
  (impl_in t 0 10000000).bind fun y_1 =>
  some y_1

noncomputable def impl_IsName_l1 (s_ : List UInt8) (t15 : Int) : Int → Option (Int ⊕ (Unit ⊕ Bool))
  | t16 =>
    if (decide (t16 < t15)) then
      ck (ixOk t16 s_.length) <|
      if ((!((decide (97 ≤ ((s_.getD t16.toNat 0).toNat : Int))) && (decide (((s_.getD t16.toNat 0).toNat : Int) ≤ 122)))) && ((t16 == 0) || (!(((decide (48 ≤ ((s_.getD t16.toNat 0).toNat : Int))) && (decide (((s_.getD t16.toNat 0).toNat : Int) ≤ 57))) || (((s_.getD t16.toNat 0).toNat : Int) == 45))))) then
        some (.inr (.inr false))
      else
        some (.inl (IntKind.i64.wrap (t16 + 1)))
    else
      some (.inr (.inl ()))

/-- impl.IsName -/
noncomputable def impl_IsName (s_ : List UInt8) : Option Bool :=
  if ((decide ((s_.length : Int) < 1)) || (decide (12 < (s_.length : Int)))) then
    some false
  else
    (whileE (impl_IsName_l1 s_ (s_.length : Int)) 0).bind fun y_5 =>
    match y_5 with
    | .inl y_5a =>
      some true
    | .inr y_5b =>
      some y_5b

/-- impl.isRequest -/
noncomputable def impl_isRequest (x : Request) : Option Bool :=
  (impl_ValidTime x.From).bind fun y_1 =>
  ck (!y_1 || (impl_ValidTime x.To).isSome) <|
  (impl_IsName x.Star).bind fun y_3 =>
  ck (!(y_3 && ((y_1 && ((impl_ValidTime x.To).getD default)) && (decide (x.From ≤ x.To)))) || (impl_in x.Wanted 1 100).isSome) <|
  ck (!((y_3 && ((y_1 && ((impl_ValidTime x.To).getD default)) && (decide (x.From ≤ x.To)))) && ((impl_in x.Wanted 1 100).getD default)) || (impl_in x.Done 0 x.Wanted).isSome) <|
  ck (!(((y_3 && ((y_1 && ((impl_ValidTime x.To).getD default)) && (decide (x.From ≤ x.To)))) && ((impl_in x.Wanted 1 100).getD default)) && ((impl_in x.Done 0 x.Wanted).getD default)) || (impl_in x.Priority 1 5).isSome) <|
  some ((((y_3 && ((y_1 && ((impl_ValidTime x.To).getD default)) && (decide (x.From ≤ x.To)))) && ((impl_in x.Wanted 1 100).getD default)) && ((impl_in x.Done 0 x.Wanted).getD default)) && ((impl_in x.Priority 1 5).getD default))

/-- impl.ValidRequests$1 -/
noncomputable def impl_ValidRequests_c1 (x : Request) : Option Bool :=
  (impl_isRequest x).bind fun y_1 =>
  some (!y_1)

noncomputable def slices_IndexFunc_impl_Request_impl_Request__impl_ValidRequests_c1_l1 (s_ : List Request) (t7 : Int) : Int → Option (Int ⊕ (Unit ⊕ Int))
  | t8 =>
    if (decide (t8 < t7)) then
      ck (ixOk t8 s_.length) <|
      (impl_ValidRequests_c1 (s_.getD t8.toNat default)).bind fun y_3 =>
      if y_3 then
        some (.inr (.inr t8))
      else
        some (.inl (IntKind.i64.wrap (t8 + 1)))
    else
      some (.inr (.inl ()))

/-- slices.IndexFunc[[]impl.Request,impl.Request] -/
noncomputable def slices_IndexFunc_impl_Request_impl_Request__impl_ValidRequests_c1 (s_ : List Request) : Option Int :=
  (whileE (slices_IndexFunc_impl_Request_impl_Request__impl_ValidRequests_c1_l1 s_ (s_.length : Int)) 0).bind fun y_5 =>
  match y_5 with
  | .inl y_5a =>
    some (-1)
  | .inr y_5b =>
    some y_5b

/-- slices.ContainsFunc[[]impl.Request,impl.Request] -/
noncomputable def slices_ContainsFunc_impl_Request_impl_Request__impl_ValidRequests_c1 (s_ : List Request) : Option Bool :=
  (slices_IndexFunc_impl_Request_impl_Request__impl_ValidRequests_c1 s_).bind fun y_1 =>
  some (decide (0 ≤ y_1))

/-- impl.ValidRequests -/
noncomputable def impl_ValidRequests (list : List Request) : Option Bool :=
  ck (!(decide ((list.length : Int) ≤ 30)) || (slices_ContainsFunc_impl_Request_impl_Request__impl_ValidRequests_c1 list).isSome) <|
  some ((decide ((list.length : Int) ≤ 30)) && (!((slices_ContainsFunc_impl_Request_impl_Request__impl_ValidRequests_c1 list).getD default)))

/-- impl.copyOf[impl.Request] -/
noncomputable def impl_copyOf_impl_Request (list : List Request) : Option (List Request) :=
  ck (appOk (([] : List Request).length + list.length) 56) <|
  some (([] : List Request) ++ list)

/-- (impl.Request).open -/
noncomputable def impl_Request_open (x : Request) (t : Int) : Option Bool :=
  (impl_in t x.From x.To).bind fun y_1 =>
  some (y_1 && (decide (x.Done < x.Wanted)))

noncomputable def impl_serve_l1 (star : List UInt8) (t : Int) (t9 : Int) : ((List Request) × Int) → Option (((List Request) × Int) ⊕ (List Request))
  | (list, t10) =>
    if (decide (t10 < t9)) then
      ck (ixOk t10 list.length) <|
      ck (!(((list.getD t10.toNat default).Star) == star) || (impl_Request_open (list.getD t10.toNat default) t).isSome) <|
      if ((((list.getD t10.toNat default).Star) == star) && ((impl_Request_open (list.getD t10.toNat default) t).getD default)) then
        some (.inl ((list.set t10.toNat (Request.mk ((list.getD t10.toNat default).Star) ((list.getD t10.toNat default).From) ((list.getD t10.toNat default).To) ((list.getD t10.toNat default).Wanted) (IntKind.i64.wrap (((list.getD t10.toNat default).Done) + 1)) ((list.getD t10.toNat default).Priority))), (IntKind.i64.wrap (t10 + 1))))
      else
        some (.inl (list, (IntKind.i64.wrap (t10 + 1))))
    else
      some (.inr list)

/-- impl.serve -/
noncomputable def impl_serve (list : List Request) (star : List UInt8) (t : Int) : Option (List Request) :=
  (whileE (impl_serve_l1 star t (list.length : Int)) (list, 0)).bind fun y_5 =>
  ck (y_5.length == list.length) <|
  some y_5

/-- impl.ServeRequests -/
noncomputable def impl_ServeRequests (list : List Request) (star : List UInt8) (t : Int) : Option ((List Request) × Int) :=
  (impl_ValidRequests list).bind fun y_1 =>
  if (!y_1) then
    some (([] : List Request), 1)
  else
    (impl_ValidTime t).bind fun y_3 =>
    ck (!(!(!y_3)) || (impl_IsName star).isSome) <|
    if ((!y_3) || (!((impl_IsName star).getD default))) then
      some (([] : List Request), 2)
    else
      (impl_copyOf_impl_Request list).bind fun y_6 =>
      (impl_serve y_6 star t).bind fun y_7 =>
      some (y_7, 0)

/-- spec.l01Small -/
noncomputable def spec_l01Small (c : UInt8) : Option Bool :=
  some ((decide (97 ≤ (c.toNat : Int))) && (decide ((c.toNat : Int) ≤ 122)))

/-- spec.l01Digit -/
noncomputable def spec_l01Digit (c : UInt8) : Option Bool :=
  some ((decide (48 ≤ (c.toNat : Int))) && (decide ((c.toNat : Int) ≤ 57)))

noncomputable def spec_IsName_l1 (s_ : List UInt8) : Int → Option (Int ⊕ (Unit ⊕ Bool))
  | i =>
    if (decide (i < (s_.length : Int))) then
      ck (ixOk i s_.length) <|
      (spec_l01Small (s_.getD i.toNat 0)).bind fun y_6 =>
      ck (!(!y_6) || (spec_l01Digit (s_.getD i.toNat 0)).isSome) <|
      if (((!y_6) && (!((spec_l01Digit (s_.getD i.toNat 0)).getD default))) && (!(((s_.getD i.toNat 0).toNat : Int) == 45))) then
        some (.inr (.inr false))
      else
        some (.inl (IntKind.i64.wrap (i + 1)))
    else
      some (.inr (.inl ()))

/-- spec.IsName -/
noncomputable def spec_IsName (s_ : List UInt8) : Option Bool :=
  ck (!(!((s_ == ([] : List UInt8)) || (decide (12 < (s_.length : Int))))) || ixOk 0 s_.length) <|
  ck (!(!((s_ == ([] : List UInt8)) || (decide (12 < (s_.length : Int))))) || (spec_l01Small (s_.getD 0 0)).isSome) <|
  if (((s_ == ([] : List UInt8)) || (decide (12 < (s_.length : Int)))) || (!((spec_l01Small (s_.getD 0 0)).getD default))) then
    some false
  else
    (whileE (spec_IsName_l1 s_) 0).bind fun y_9 =>
    match y_9 with
    | .inl y_9a =>
      some true
    | .inr y_9b =>
      some y_9b

/-- spec.l00In -/
noncomputable def spec_l00In (n : Int) (low : Int) (high : Int) : Option Bool :=
  some ((decide (low ≤ n)) && (decide (n ≤ high)))

/-- spec.l03Time -/
noncomputable def spec_l03Time (t : Int) : Option Bool :=
  (spec_l00In t 0 10000000).bind fun y_1 =>
  some y_1

/-- spec.l22One -/
noncomputable def spec_l22One (x : Request) : Option Bool :=
  (spec_IsName x.Star).bind fun y_1 =>
  ck (!y_1 || (spec_l03Time x.From).isSome) <|
  ck (!(y_1 && ((spec_l03Time x.From).getD default)) || (spec_l00In x.To x.From 10000000).isSome) <|
  ck (!((y_1 && ((spec_l03Time x.From).getD default)) && ((spec_l00In x.To x.From 10000000).getD default)) || (spec_l00In x.Wanted 1 100).isSome) <|
  ck (!(((y_1 && ((spec_l03Time x.From).getD default)) && ((spec_l00In x.To x.From 10000000).getD default)) && ((spec_l00In x.Wanted 1 100).getD default)) || (spec_l00In x.Done 0 x.Wanted).isSome) <|
  ck (!((((y_1 && ((spec_l03Time x.From).getD default)) && ((spec_l00In x.To x.From 10000000).getD default)) && ((spec_l00In x.Wanted 1 100).getD default)) && ((spec_l00In x.Done 0 x.Wanted).getD default)) || (spec_l00In x.Priority 1 5).isSome) <|
  some (((((y_1 && ((spec_l03Time x.From).getD default)) && ((spec_l00In x.To x.From 10000000).getD default)) && ((spec_l00In x.Wanted 1 100).getD default)) && ((spec_l00In x.Done 0 x.Wanted).getD default)) && ((spec_l00In x.Priority 1 5).getD default))

noncomputable def spec_l22Ok_l1 (list : List Request) : Int → Option (Int ⊕ (Unit ⊕ Bool))
  | i =>
    if (decide (i < (list.length : Int))) then
      ck (ixOk i list.length) <|
      (spec_l22One (list.getD i.toNat default)).bind fun y_3 =>
      if (!y_3) then
        some (.inr (.inr false))
      else
        some (.inl (IntKind.i64.wrap (i + 1)))
    else
      some (.inr (.inl ()))

/-- spec.l22Ok -/
noncomputable def spec_l22Ok (list : List Request) : Option Bool :=
  (whileE (spec_l22Ok_l1 list) 0).bind fun y_5 =>
  match y_5 with
  | .inl y_5a =>
    some (decide ((list.length : Int) ≤ 30))
  | .inr y_5b =>
    some y_5b

/-- spec.l22Code -/
noncomputable def spec_l22Code (list : List Request) (t : Int) : Option Int :=
  (spec_l22Ok list).bind fun y_1 =>
  if (!y_1) then
    some 1
  else
    (spec_l03Time t).bind fun y_3 =>
    if (!y_3) then
      some 2
    else
      some 0

/-- spec.l22Open -/
noncomputable def spec_l22Open (x : Request) (t : Int) : Option Bool :=
  (spec_l00In t x.From x.To).bind fun y_1 =>
  some (y_1 && (decide (x.Done < x.Wanted)))

noncomputable def spec_l22Serve_l1 (star : List UInt8) (t : Int) : ((List Request) × Int) → Option (((List Request) × Int) ⊕ (List Request))
  | (list, i) =>
    if (decide (i < (list.length : Int))) then
      ck (ixOk i list.length) <|
      ck (!(((list.getD i.toNat default).Star) == star) || (spec_l22Open (list.getD i.toNat default) t).isSome) <|
      if ((((list.getD i.toNat default).Star) == star) && ((spec_l22Open (list.getD i.toNat default) t).getD default)) then
        some (.inl ((list.set i.toNat (Request.mk ((list.getD i.toNat default).Star) ((list.getD i.toNat default).From) ((list.getD i.toNat default).To) ((list.getD i.toNat default).Wanted) (IntKind.i64.wrap (((list.getD i.toNat default).Done) + 1)) ((list.getD i.toNat default).Priority))), (IntKind.i64.wrap (i + 1))))
      else
        some (.inl (list, (IntKind.i64.wrap (i + 1))))
    else
      some (.inr list)

/-- spec.l22Serve -/
noncomputable def spec_l22Serve (list : List Request) (star : List UInt8) (t : Int) : Option (List Request) :=
  (whileE (spec_l22Serve_l1 star t) (list, 0)).bind fun y_5 =>
  ck (y_5.length == list.length) <|
  some y_5

/-- spec.ServeRequests -/
noncomputable def spec_ServeRequests (list : List Request) (star : List UInt8) (t : Int) : Option ((List Request) × Int) :=
  (spec_l22Code list t).bind fun y_1 =>
  ck (!(y_1 == 0) || (spec_IsName star).isSome) <|
  if ((y_1 == 0) && (!((spec_IsName star).getD default))) then
    if (!(2 == 0)) then
      some (([] : List Request), 2)
    else
      ck (appOk (([] : List Request).length + list.length) 56) <|
      (spec_l22Serve (([] : List Request) ++ list) star t).bind fun y_6 =>
      some (y_6, 0)
  else
    if (!(y_1 == 0)) then
      some (([] : List Request), y_1)
    else
      ck (appOk (([] : List Request).length + list.length) 56) <|
      (spec_l22Serve (([] : List Request) ++ list) star t).bind fun y_9 =>
      some (y_9, 0)

/-- spec.l06New -/
noncomputable def spec_l06New (s_ : L00Src) : Option (Estimate × L00Src) :=
  (spec_l00Src_pick s_ 30).bind fun y_1 =>
  (spec_l00Src_one y_1.2 2).bind fun y_2 =>
  if y_2.1 then
    (spec_l00Src_pick y_2.2 3000).bind fun y_4 =>
    (spec_l00Src_text y_4.2 ([([109, 105, 114, 97] : List UInt8), ([114, 114, 45, 108, 121, 114] : List UInt8), ([115, 115, 45, 99, 121, 103] : List UInt8)] : List (List UInt8))).bind fun y_5 =>
    (spec_l00Src_text y_5.2 ([([97, 98] : List UInt8), ([99, 100] : List UInt8), ([101] : List UInt8)] : List (List UInt8))).bind fun y_6 =>
    (spec_l00Src_pick y_6.2 60).bind fun y_7 =>
    (spec_l00Src_one y_7.2 5).bind fun y_8 =>
    some ((Estimate.mk (IntKind.i64.wrap ((IntKind.i64.wrap (1000 * y_1.1)) + y_4.1)) y_5.1 y_6.1 (IntKind.i64.wrap (8000 + (IntKind.i64.wrap (50 * y_7.1)))) y_8.1), y_8.2)
  else
    (spec_l00Src_text y_2.2 ([([109, 105, 114, 97] : List UInt8), ([114, 114, 45, 108, 121, 114] : List UInt8), ([115, 115, 45, 99, 121, 103] : List UInt8)] : List (List UInt8))).bind fun y_9 =>
    (spec_l00Src_text y_9.2 ([([97, 98] : List UInt8), ([99, 100] : List UInt8), ([101] : List UInt8)] : List (List UInt8))).bind fun y_10 =>
    (spec_l00Src_pick y_10.2 60).bind fun y_11 =>
    (spec_l00Src_one y_11.2 5).bind fun y_12 =>
    some ((Estimate.mk (IntKind.i64.wrap (1000 * y_1.1)) y_9.1 y_10.1 (IntKind.i64.wrap (8000 + (IntKind.i64.wrap (50 * y_11.1)))) y_12.1), y_12.2)

/-- spec.l06Before -/
noncomputable def spec_l06Before (a : Estimate) (b : Estimate) : Option Bool :=
  if (!(a.Time == b.Time)) then
    some (decide (a.Time < b.Time))
  else
    if (!(a.Star == b.Star)) then
      some (Op.bytesLess a.Star b.Star)
    else
      some (Op.bytesLess a.Observer b.Observer)

noncomputable def spec_l06Find_l1 (list : List Estimate) (e_ : Estimate) : Int → Option (Int ⊕ (Unit ⊕ Int))
  | i =>
    if (decide (i < (list.length : Int))) then
      ck (ixOk i list.length) <|
      (spec_l06Before (list.getD i.toNat default) e_).bind fun y_3 =>
      ck (!(!y_3) || (spec_l06Before e_ (list.getD i.toNat default)).isSome) <|
      if ((!y_3) && (!((spec_l06Before e_ (list.getD i.toNat default)).getD default))) then
        some (.inr (.inr i))
      else
        some (.inl (IntKind.i64.wrap (i + 1)))
    else
      some (.inr (.inl ()))

/-- spec.l06Find -/
noncomputable def spec_l06Find (list : List Estimate) (e_ : Estimate) : Option Int :=
  (whileE (spec_l06Find_l1 list e_) 0).bind fun y_6 =>
  match y_6 with
  | .inl y_6a =>
    some (-1)
  | .inr y_6b =>
    some y_6b

noncomputable def spec_l06Put_l1 (list : List Estimate) (e_ : Estimate) : Int → Option (Int ⊕ Int)
  | k =>
    ck (!(decide (0 < k)) || ixOk (IntKind.i64.wrap (k - 1)) list.length) <|
    ck (!(decide (0 < k)) || (spec_l06Before e_ (list.getD (IntKind.i64.wrap (k - 1)).toNat default)).isSome) <|
    if ((decide (0 < k)) && ((spec_l06Before e_ (list.getD (IntKind.i64.wrap (k - 1)).toNat default)).getD default)) then
      some (.inl (IntKind.i64.wrap (k - 1)))
    else
      some (.inr k)

/-- spec.l06Put -/
noncomputable def spec_l06Put (list : List Estimate) (e_ : Estimate) : Option (List Estimate) :=
  (whileE (spec_l06Put_l1 list e_) (list.length : Int)).bind fun y_4 =>
  ck (cutOk 0 y_4 list.length) <|
  ck (appOk (([] : List Estimate).length + (cut list 0 y_4).length) 56) <|
  ck (appOk ((([] : List Estimate) ++ (cut list 0 y_4)).length + ([e_] : List Estimate).length) 56) <|
  ck (cutOk y_4 (list.length : Int) list.length) <|
  ck (appOk (((([] : List Estimate) ++ (cut list 0 y_4)) ++ ([e_] : List Estimate)).length + (cut list y_4 (list.length : Int)).length) 56) <|
  some (((([] : List Estimate) ++ (cut list 0 y_4)) ++ ([e_] : List Estimate)) ++ (cut list y_4 (list.length : Int)))

noncomputable def spec_l06Draw_l1  : (L00Src × (List Estimate) × Int) → Option ((L00Src × (List Estimate) × Int) ⊕ (L00Src × (List Estimate)))
  | (s_, out, k) =>
    if (decide (0 < k)) then
      (spec_l06New s_).bind fun y_3 =>
      (spec_l06Find out y_3.1).bind fun y_4 =>
      if (decide (y_4 < 0)) then
        (spec_l06Put out y_3.1).bind fun y_6 =>
        some (.inl (y_3.2, y_6, (IntKind.i64.wrap (k - 1))))
      else
        some (.inl (y_3.2, out, (IntKind.i64.wrap (k - 1))))
    else
      some (.inr (s_, out))

/-- spec.l06Draw -/
noncomputable def spec_l06Draw (s_ : L00Src) (most : Int) : Option ((List Estimate) × L00Src) :=
  (spec_l00Src_pick s_ (IntKind.i64.wrap (most + 1))).bind fun y_1 =>
  (whileE (spec_l06Draw_l1) (y_1.2, ([] : List Estimate), y_1.1)).bind fun y_7 =>
  some (y_7.2, y_7.1)

/-- spec.l02Draw -/
noncomputable def spec_l02Draw (s_ : L00Src) : Option (Int × L00Src) :=
  (spec_l00Src_one s_ 8).bind fun y_1 =>
  if y_1.1 then
    (spec_l00Src_pick y_1.2 22001).bind fun y_3 =>
    some ((IntKind.i64.wrap (y_3.1 + (-2000))), y_3.2)
  else
    (spec_l00Src_pick y_1.2 60).bind fun y_4 =>
    some ((IntKind.i64.wrap (8000 + (IntKind.i64.wrap (50 * y_4.1)))), y_4.2)

/-- spec.l02Bent -/
noncomputable def spec_l02Bent (s_ : L00Src) : Option (Int × L00Src) :=
  (spec_l00Src_one s_ 14).bind fun y_1 =>
  if y_1.1 then
    (spec_l00Src_among y_1.2 ([(-2001), (-2000), 20000, 20001, (-9223372036854775808), 9223372036854775807] : List Int)).bind fun y_3 =>
    some (y_3.1, y_3.2)
  else
    (spec_l02Draw y_1.2).bind fun y_4 =>
    some (y_4.1, y_4.2)

/-- spec.l06BentOne -/
noncomputable def spec_l06BentOne (s_ : L00Src) : Option (Estimate × L00Src) :=
  (spec_l06New s_).bind fun y_1 =>
  (spec_l00Src_pick y_1.2 24).bind fun y_2 =>
  if (y_2.1 == 0) then
    (spec_l00Src_among y_2.2 ([(-1), 0, 10000000, 10000001] : List Int)).bind fun y_4 =>
    some ((Estimate.mk y_4.1 y_1.1.Star y_1.1.Observer y_1.1.Mag y_1.1.Fainter), y_4.2)
  else
    if (y_2.1 == 1) then
      (spec_l00Src_text y_2.2 ([([] : List UInt8), ([77, 105, 114, 97] : List UInt8), ([97, 32, 98] : List UInt8)] : List (List UInt8))).bind fun y_6 =>
      some ((Estimate.mk y_1.1.Time y_6.1 y_1.1.Observer y_1.1.Mag y_1.1.Fainter), y_6.2)
    else
      if (y_2.1 == 2) then
        (spec_l00Src_text y_2.2 ([([] : List UInt8), ([65, 66] : List UInt8)] : List (List UInt8))).bind fun y_8 =>
        some ((Estimate.mk y_1.1.Time y_1.1.Star y_8.1 y_1.1.Mag y_1.1.Fainter), y_8.2)
      else
        if (y_2.1 == 3) then
          (spec_l02Bent y_2.2).bind fun y_10 =>
          some ((Estimate.mk y_1.1.Time y_1.1.Star y_1.1.Observer y_10.1 y_1.1.Fainter), y_10.2)
        else
          some (y_1.1, y_2.2)

noncomputable def spec_l06Bent_l1 (s_ : L00Src) : ((List Estimate) × Int) → Option (((List Estimate) × Int) ⊕ (List Estimate))
  | (list, k) =>
    if (decide (0 < k)) then
      ck (appOk (list.length + ([(Estimate.mk (list.length : Int) ([109, 105, 114, 97] : List UInt8) ([97, 98] : List UInt8) 9000 false)] : List Estimate).length) 56) <|
      some (.inl ((list ++ ([(Estimate.mk (list.length : Int) ([109, 105, 114, 97] : List UInt8) ([97, 98] : List UInt8) 9000 false)] : List Estimate)), (IntKind.i64.wrap (k - 1))))
    else
      some (.inr list)

/-- spec.l06Bent -/
noncomputable def spec_l06Bent (s_ : L00Src) : Option ((List Estimate) × L00Src) :=
  (spec_l06Draw s_ 10).bind fun y_1 =>
  (spec_l00Src_pick y_1.2 20).bind fun y_2 =>
  if (y_2.1 == 0) then
    (spec_l06BentOne y_2.2).bind fun y_4 =>
    ck (appOk (y_1.1.length + ([y_4.1] : List Estimate).length) 56) <|
    some ((y_1.1 ++ ([y_4.1] : List Estimate)), y_4.2)
  else
    if (y_2.1 == 1) then
      (spec_l00Src_pick y_2.2 2).bind fun y_7 =>
      (whileE (spec_l06Bent_l1 y_7.2) (([] : List Estimate), (IntKind.i64.wrap (100 + y_7.1)))).bind fun y_10 =>
      some (y_10, y_7.2)
    else
      if (y_2.1 == 2) then
        if (decide (0 < (y_1.1.length : Int))) then
          (spec_l00Src_pick y_2.2 (y_1.1.length : Int)).bind fun y_13 =>
          (spec_l06BentOne y_13.2).bind fun y_14 =>
          ck (ixOk y_13.1 y_1.1.length) <|
          some ((y_1.1.set y_13.1.toNat y_14.1), y_14.2)
        else
          some (y_1.1, y_2.2)
      else
        some (y_1.1, y_2.2)

/-- spec.DrawServeEstimates -/
noncomputable def spec_DrawServeEstimates (code : List UInt8) : Option ((List Request) × (List Estimate)) :=
  (spec_l00From code).bind fun y_1 =>
  (spec_l22Bent y_1).bind fun y_2 =>
  (spec_l06Bent y_2.2).bind fun y_3 =>
  some (y_2.1, y_3.1)

/-- impl.ValidMag -/
noncomputable def impl_ValidMag (m : Int) : Option Bool :=
  (impl_in m (-2000) 20000).bind fun y_1 =>
  some y_1

/-- impl.isEstimate -/
noncomputable def impl_isEstimate (e_ : Estimate) : Option Bool :=
  (impl_ValidTime e_.Time).bind fun y_1 =>
  ck (!y_1 || (impl_IsName e_.Star).isSome) <|
  ck (!(y_1 && ((impl_IsName e_.Star).getD default)) || (impl_IsName e_.Observer).isSome) <|
  ck (!((y_1 && ((impl_IsName e_.Star).getD default)) && ((impl_IsName e_.Observer).getD default)) || (impl_ValidMag e_.Mag).isSome) <|
  some (((y_1 && ((impl_IsName e_.Star).getD default)) && ((impl_IsName e_.Observer).getD default)) && ((impl_ValidMag e_.Mag).getD default))

/-- cmp.isNaN[int64] -/
noncomputable def cmp_isNaN_int64 (x : Int) : Option Bool :=
  some (!(x == x))

/-- cmp.Compare[int64] -/
noncomputable def cmp_Compare_int64 (x : Int) (y : Int) : Option Int :=
  (cmp_isNaN_int64 x).bind fun y_1 =>
  (cmp_isNaN_int64 y).bind fun y_2 =>
  if y_1 then
    if y_2 then
      some 0
    else
      some (-1)
  else
    if y_2 then
      some 1
    else
      if (decide (x < y)) then
        some (-1)
      else
        if (decide (y < x)) then
          some 1
        else
          some 0


/-- internal/bytealg.CompareString -/
noncomputable def internal_bytealg_CompareString (a : List UInt8) (b : List UInt8) : Option Int :=
  (hCmp a b).bind fun y_1 =>
  some y_1

/-- strings.Compare -/
noncomputable def strings_Compare (a : List UInt8) (b : List UInt8) : Option Int :=
  (internal_bytealg_CompareString a b).bind fun y_1 =>
  some y_1

noncomputable def cmp_Or_int_l1 (zero : Int) (t6 : List Int) (t7 : Int) : Int → Option (Int ⊕ (Unit ⊕ Int))
  | t8 =>
    if (decide (t8 < t7)) then
      ck (ixOk t8 t6.length) <|
      if (!((t6.getD t8.toNat default) == zero)) then
        some (.inr (.inr (t6.getD t8.toNat default)))
      else
        some (.inl (IntKind.i64.wrap (t8 + 1)))
    else
      some (.inr (.inl ()))

/-- cmp.Or[int] -/
noncomputable def cmp_Or_int (vals : List Int) : Option Int :=
  (whileE (cmp_Or_int_l1 0 vals (vals.length : Int)) 0).bind fun y_4 =>
  match y_4 with
  | .inl y_4a =>
    some 0
  | .inr y_4b =>
    some y_4b

/-- impl.compareEstimates -/
noncomputable def impl_compareEstimates (a : Estimate) (b : Estimate) : Option Int :=
  (cmp_Compare_int64 a.Time b.Time).bind fun y_1 =>
  (strings_Compare a.Star b.Star).bind fun y_2 =>
  (strings_Compare a.Observer b.Observer).bind fun y_3 =>
  (cmp_Or_int ([y_1, y_2, y_3] : List Int)).bind fun y_4 =>
  some y_4

noncomputable def impl_ValidEstimates_l1 (list : List Estimate) (t8 : List Estimate) (t9 : Int) : Int → Option (Int ⊕ (Unit ⊕ Bool))
  | t10 =>
    if (decide (t10 < t9)) then
      ck (ixOk t10 t8.length) <|
      (impl_isEstimate (t8.getD t10.toNat default)).bind fun y_4 =>
      ck (!((!(!y_4)) && (decide (0 < t10))) || ixOk (IntKind.i64.wrap (t10 - 1)) list.length) <|
      ck (!((!(!y_4)) && (decide (0 < t10))) || (impl_compareEstimates (list.getD (IntKind.i64.wrap (t10 - 1)).toNat default) (t8.getD t10.toNat default)).isSome) <|
      if ((!y_4) || ((decide (0 < t10)) && (decide (0 ≤ ((impl_compareEstimates (list.getD (IntKind.i64.wrap (t10 - 1)).toNat default) (t8.getD t10.toNat default)).getD default))))) then
        some (.inr (.inr false))
      else
        some (.inl (IntKind.i64.wrap (t10 + 1)))
    else
      some (.inr (.inl ()))

/-- impl.ValidEstimates -/
noncomputable def impl_ValidEstimates (list : List Estimate) : Option Bool :=
  if (decide (100 < (list.length : Int))) then
    some false
  else
    (whileE (impl_ValidEstimates_l1 list list (list.length : Int)) 0).bind fun y_8 =>
    match y_8 with
    | .inl y_8a =>
      some true
    | .inr y_8b =>
      some y_8b

noncomputable def impl_ServeEstimates_l1 (t19 : List Estimate) (t20 : Int) : ((List Request) × Int) → Option (((List Request) × Int) ⊕ (List Request))
  | (out, t21) =>
    if (decide (t21 < t20)) then
      ck (ixOk t21 t19.length) <|
      (impl_serve out ((t19.getD t21.toNat default).Star) ((t19.getD t21.toNat default).Time)).bind fun y_7 =>
      some (.inl (y_7, (IntKind.i64.wrap (t21 + 1))))
    else
      some (.inr out)

/-- impl.ServeEstimates -/
noncomputable def impl_ServeEstimates (list : List Request) (estimates : List Estimate) : Option ((List Request) × Int) :=
  (impl_ValidRequests list).bind fun y_1 =>
  ck (!(!(!y_1)) || (impl_ValidEstimates estimates).isSome) <|
  if ((!y_1) || (!((impl_ValidEstimates estimates).getD default))) then
    some (([] : List Request), 1)
  else
    (impl_copyOf_impl_Request list).bind fun y_4 =>
    (whileE (impl_ServeEstimates_l1 estimates (estimates.length : Int)) (y_4, 0)).bind fun y_8 =>
    some (y_8, 0)

/-- spec.l06Time -/
noncomputable def spec_l06Time (n : Int) : Option Bool :=
  (spec_l00In n 0 10000000).bind fun y_1 =>
  some y_1

/-- spec.l02Mag -/
noncomputable def spec_l02Mag (m : Int) : Option Bool :=
  (spec_l00In m (-2000) 20000).bind fun y_1 =>
  some y_1

/-- spec.l06One -/
noncomputable def spec_l06One (e_ : Estimate) : Option Bool :=
  (spec_l06Time e_.Time).bind fun y_1 =>
  ck (!y_1 || (spec_IsName e_.Star).isSome) <|
  ck (!(y_1 && ((spec_IsName e_.Star).getD default)) || (spec_IsName e_.Observer).isSome) <|
  ck (!((y_1 && ((spec_IsName e_.Star).getD default)) && ((spec_IsName e_.Observer).getD default)) || (spec_l02Mag e_.Mag).isSome) <|
  some (((y_1 && ((spec_IsName e_.Star).getD default)) && ((spec_IsName e_.Observer).getD default)) && ((spec_l02Mag e_.Mag).getD default))

noncomputable def spec_l06Ok_l1 (list : List Estimate) : Int → Option (Int ⊕ (Unit ⊕ Bool))
  | i =>
    if (decide (i < (list.length : Int))) then
      ck (ixOk i list.length) <|
      (spec_l06One (list.getD i.toNat default)).bind fun y_3 =>
      ck (!((!(!y_3)) && (decide (0 < i))) || ixOk (IntKind.i64.wrap (i - 1)) list.length) <|
      ck (!((!(!y_3)) && (decide (0 < i))) || (spec_l06Before (list.getD (IntKind.i64.wrap (i - 1)).toNat default) (list.getD i.toNat default)).isSome) <|
      if ((!y_3) || ((decide (0 < i)) && (!((spec_l06Before (list.getD (IntKind.i64.wrap (i - 1)).toNat default) (list.getD i.toNat default)).getD default)))) then
        some (.inr (.inr false))
      else
        some (.inl (IntKind.i64.wrap (i + 1)))
    else
      some (.inr (.inl ()))

/-- spec.l06Ok -/
noncomputable def spec_l06Ok (list : List Estimate) : Option Bool :=
  (whileE (spec_l06Ok_l1 list) 0).bind fun y_7 =>
  match y_7 with
  | .inl y_7a =>
    some (decide ((list.length : Int) ≤ 100))
  | .inr y_7b =>
    some y_7b

noncomputable def spec_ServeEstimates_l1 (estimates : List Estimate) : ((List Request) × Int) → Option (((List Request) × Int) ⊕ (List Request))
  | (out, i) =>
    if (decide (i < (estimates.length : Int))) then
      ck (ixOk i estimates.length) <|
      (spec_l22Serve out ((estimates.getD i.toNat default).Star) ((estimates.getD i.toNat default).Time)).bind fun y_7 =>
      some (.inl (y_7, (IntKind.i64.wrap (i + 1))))
    else
      some (.inr out)

/-- spec.ServeEstimates -/
noncomputable def spec_ServeEstimates (list : List Request) (estimates : List Estimate) : Option ((List Request) × Int) :=
  (spec_l22Ok list).bind fun y_1 =>
  ck (!(!(!y_1)) || (spec_l06Ok estimates).isSome) <|
  if ((!y_1) || (!((spec_l06Ok estimates).getD default))) then
    some (([] : List Request), 1)
  else
    ck (appOk (([] : List Request).length + list.length) 56) <|
    (whileE (spec_ServeEstimates_l1 estimates) ((([] : List Request) ++ list), 0)).bind fun y_8 =>
    some (y_8, 0)

/-- spec.l22Ask -/
noncomputable def spec_l22Ask (code : List UInt8) : Option ((List Request) × Int) :=
  (spec_l00From code).bind fun y_1 =>
  (spec_l22Bent y_1).bind fun y_2 =>
  (spec_l06When y_2.2).bind fun y_3 =>
  some (y_2.1, y_3.1)

/-- spec.DrawExpireRequests -/
noncomputable def spec_DrawExpireRequests (code : List UInt8) : Option ((List Request) × Int) :=
  (spec_l22Ask code).bind fun y_1 =>
  some (y_1.1, y_1.2)

/-- impl.timed -/
noncomputable def impl_timed (list : List Request) (t : Int) : Option Int :=
  (impl_ValidRequests list).bind fun y_1 =>
  if (!y_1) then
    some 1
  else
    (impl_ValidTime t).bind fun y_3 =>
    if (!y_3) then
      some 2
    else
      some 0

/-- impl.ExpireRequests$1 -/
noncomputable def impl_ExpireRequests_c1 (x : Request) (t1 : Int) : Option Bool :=
  some ((decide (t1 ≤ x.To)) && (decide (x.Done < x.Wanted)))

noncomputable def impl_chosen_impl_Request__impl_ExpireRequests_c1_l1 (c : Int) (t9 : List Request) (t10 : Int) : ((List Request) × Int) → Option (((List Request) × Int) ⊕ (List Request))
  | (out, t11) =>
    if (decide (t11 < t10)) then
      ck (ixOk t11 t9.length) <|
      (impl_ExpireRequests_c1 (t9.getD t11.toNat default) c).bind fun y_3 =>
      if y_3 then
        ck (appOk (out.length + ([(t9.getD t11.toNat default)] : List Request).length) 56) <|
        some (.inl ((out ++ ([(t9.getD t11.toNat default)] : List Request)), (IntKind.i64.wrap (t11 + 1))))
      else
        some (.inl (out, (IntKind.i64.wrap (t11 + 1))))
    else
      some (.inr out)

/-- impl.chosen[impl.Request] -/
noncomputable def impl_chosen_impl_Request__impl_ExpireRequests_c1 (list : List Request) (wanted_c0 : Int) : Option (List Request) :=
  (whileE (impl_chosen_impl_Request__impl_ExpireRequests_c1_l1 wanted_c0 list (list.length : Int)) (([] : List Request), 0)).bind fun y_6 =>
  some y_6

/-- impl.ExpireRequests -/
noncomputable def impl_ExpireRequests (list : List Request) (t : Int) : Option ((List Request) × Int) :=
  (impl_timed list t).bind fun y_1 =>
  if (!(y_1 == 0)) then
    some (([] : List Request), y_1)
  else
    (impl_chosen_impl_Request__impl_ExpireRequests_c1 list t).bind fun y_3 =>
    some (y_3, 0)

noncomputable def spec_ExpireRequests_l1 (list : List Request) (t : Int) : ((List Request) × Int) → Option (((List Request) × Int) ⊕ (List Request))
  | (out, i) =>
    if (decide (i < (list.length : Int))) then
      ck (ixOk i list.length) <|
      if ((decide (t ≤ ((list.getD i.toNat default).To))) && (decide (((list.getD i.toNat default).Done) < ((list.getD i.toNat default).Wanted)))) then
        ck (appOk (out.length + ([(list.getD i.toNat default)] : List Request).length) 56) <|
        some (.inl ((out ++ ([(list.getD i.toNat default)] : List Request)), (IntKind.i64.wrap (i + 1))))
      else
        some (.inl (out, (IntKind.i64.wrap (i + 1))))
    else
      some (.inr out)

/-- spec.ExpireRequests -/
noncomputable def spec_ExpireRequests (list : List Request) (t : Int) : Option ((List Request) × Int) :=
  (spec_l22Code list t).bind fun y_1 =>
  if (!(y_1 == 0)) then
    some (([] : List Request), y_1)
  else
    (whileE (spec_ExpireRequests_l1 list t) (([] : List Request), 0)).bind fun y_7 =>
    some (y_7, 0)

/-- spec.DrawServedShare -/
noncomputable def spec_DrawServedShare (code : List UInt8) : Option (List Request) :=
  (spec_l00From code).bind fun y_1 =>
  (spec_l22Bent y_1).bind fun y_2 =>
  some y_2.1

/-- impl.abs -/
noncomputable def impl_abs (n : Int) : Option Int :=
  if (decide (n < 0)) then
    some (IntKind.i64.wrap (0 - n))
  else
    some n

noncomputable def impl_gcd_l1  : (Int × Int) → Option ((Int × Int) ⊕ Int)
  | (a, b) =>
    if (!(b == 0)) then
      ck (nz b) <|
      some (.inl (b, (a.tmod b)))
    else
      some (.inr a)

/-- impl.gcd -/
noncomputable def impl_gcd (a : Int) (b : Int) : Option Int :=
  (whileE (impl_gcd_l1) (a, b)).bind fun y_3 =>
  (impl_abs y_3).bind fun y_4 =>
  some y_4

/-- impl.lowest -/
noncomputable def impl_lowest (num : Int) (den : Int) : Option Fraction :=
  (impl_gcd num den).bind fun y_1 =>
  if (decide (den < 0)) then
    ck (nz (IntKind.i64.wrap (0 - y_1))) <|
    some (Fraction.mk (IntKind.i64.wrap (num.tdiv (IntKind.i64.wrap (0 - y_1)))) (IntKind.i64.wrap (den.tdiv (IntKind.i64.wrap (0 - y_1)))))
  else
    ck (nz y_1) <|
    some (Fraction.mk (IntKind.i64.wrap (num.tdiv y_1)) (IntKind.i64.wrap (den.tdiv y_1)))

noncomputable def impl_ServedShare_l1 (t2 : Fraction) (t18 : List Request) (t19 : Int) : (Int × Int × Int) → Option ((Int × Int × Int) ⊕ (Int × Int))
  | (done, wanted, t20) =>
    if (decide (t20 < t19)) then
      ck (ixOk t20 t18.length) <|
      some (.inl ((IntKind.i64.wrap (done + ((t18.getD t20.toNat default).Done))), (IntKind.i64.wrap (wanted + ((t18.getD t20.toNat default).Wanted))), (IntKind.i64.wrap (t20 + 1))))
    else
      some (.inr (done, wanted))

/-- impl.ServedShare -/
noncomputable def impl_ServedShare (list : List Request) : Option (Fraction × Int) :=
  (impl_ValidRequests list).bind fun y_1 =>
  if (!y_1) then
    some ((Fraction.mk 0 0), 1)
  else
    if ((list.length : Int) == 0) then
      some ((Fraction.mk 0 0), 3)
    else
      (whileE (impl_ServedShare_l1 (Fraction.mk 0 0) list (list.length : Int)) (0, 0, 0)).bind fun y_6 =>
      (impl_lowest y_6.1 y_6.2).bind fun y_7 =>
      some (y_7, 0)

/-- spec.l02Size -/
noncomputable def spec_l02Size (n : Int) : Option Int :=
  if (decide (n < 0)) then
    some (IntKind.i64.wrap (0 - n))
  else
    some n

noncomputable def spec_l02Gcd_l1  : (Int × Int) → Option ((Int × Int) ⊕ Int)
  | (a, b) =>
    if (!(b == 0)) then
      ck (nz b) <|
      some (.inl (b, (a.tmod b)))
    else
      some (.inr a)

/-- spec.l02Gcd -/
noncomputable def spec_l02Gcd (a : Int) (b : Int) : Option Int :=
  (whileE (spec_l02Gcd_l1) (a, b)).bind fun y_3 =>
  some y_3

/-- spec.l02Make -/
noncomputable def spec_l02Make (num : Int) (den : Int) : Option Fraction :=
  (spec_l02Size num).bind fun y_1 =>
  (spec_l02Gcd y_1 den).bind fun y_2 =>
  ck (nz y_2) <|
  some (Fraction.mk (IntKind.i64.wrap (num.tdiv y_2)) (IntKind.i64.wrap (den.tdiv y_2)))

noncomputable def spec_ServedShare_l1 (list : List Request) (t2 : Fraction) : (Int × Int × Int) → Option ((Int × Int × Int) ⊕ (Int × Int))
  | (done, wanted, i) =>
    if (decide (i < (list.length : Int))) then
      ck (ixOk i list.length) <|
      some (.inl ((IntKind.i64.wrap (done + ((list.getD i.toNat default).Done))), (IntKind.i64.wrap (wanted + ((list.getD i.toNat default).Wanted))), (IntKind.i64.wrap (i + 1))))
    else
      some (.inr (done, wanted))

/-- spec.ServedShare -/
noncomputable def spec_ServedShare (list : List Request) : Option (Fraction × Int) :=
  (spec_l22Ok list).bind fun y_1 =>
  if (!y_1) then
    some ((Fraction.mk 0 0), 1)
  else
    if ((list.length : Int) == 0) then
      some ((Fraction.mk 0 0), 3)
    else
      (whileE (spec_ServedShare_l1 list (Fraction.mk 0 0)) (0, 0, 0)).bind fun y_6 =>
      (spec_l02Make y_6.1 y_6.2).bind fun y_7 =>
      some (y_7, 0)

noncomputable def spec_SameRequests_l1 (a : List Request) (b : List Request) : Int → Option (Int ⊕ (Unit ⊕ Bool))
  | i =>
    if (decide (i < (a.length : Int))) then
      ck (ixOk i a.length) <|
      ck (ixOk i b.length) <|
      if (!((((a.getD i.toNat default).Star) == ((b.getD i.toNat default).Star)) && ((((a.getD i.toNat default).From) == ((b.getD i.toNat default).From)) && ((((a.getD i.toNat default).To) == ((b.getD i.toNat default).To)) && ((((a.getD i.toNat default).Wanted) == ((b.getD i.toNat default).Wanted)) && ((((a.getD i.toNat default).Done) == ((b.getD i.toNat default).Done)) && (((a.getD i.toNat default).Priority) == ((b.getD i.toNat default).Priority)))))))) then
        some (.inr (.inr false))
      else
        some (.inl (IntKind.i64.wrap (i + 1)))
    else
      some (.inr (.inl ()))

/-- spec.SameRequests -/
noncomputable def spec_SameRequests (a : List Request) (b : List Request) : Option Bool :=
  if (!((a.length : Int) == (b.length : Int))) then
    some false
  else
    (whileE (spec_SameRequests_l1 a b) 0).bind fun y_6 =>
    match y_6 with
    | .inl y_6a =>
      some true
    | .inr y_6b =>
      some y_6b

/-- impl.OpenRequests$1 -/
noncomputable def impl_OpenRequests_c1 (i : Int) (t1 : List Request) (t2 : Int) : Option Bool :=
  ck (ixOk i t1.length) <|
  (impl_Request_open (t1.getD i.toNat default) t2).bind fun y_2 =>
  some y_2

noncomputable def impl_indicesWhere__impl_OpenRequests_c1_l1 (c : List Request) (c2 : Int) (t8 : Int) : ((List Int) × Int) → Option (((List Int) × Int) ⊕ (List Int))
  | (out, t9) =>
    if (decide (t9 < t8)) then
      (impl_OpenRequests_c1 t9 c c2).bind fun y_2 =>
      if y_2 then
        ck (appOk (out.length + ([t9] : List Int).length) 8) <|
        some (.inl ((out ++ ([t9] : List Int)), (IntKind.i64.wrap (t9 + 1))))
      else
        some (.inl (out, (IntKind.i64.wrap (t9 + 1))))
    else
      some (.inr out)

/-- impl.indicesWhere -/
noncomputable def impl_indicesWhere__impl_OpenRequests_c1 (n : Int) (wanted_c0 : List Request) (wanted_c1 : Int) : Option (List Int) :=
  (whileE (impl_indicesWhere__impl_OpenRequests_c1_l1 wanted_c0 wanted_c1 n) (([] : List Int), 0)).bind fun y_5 =>
  some y_5

/-- impl.OpenRequests -/
noncomputable def impl_OpenRequests (list : List Request) (t : Int) : Option ((List Int) × Int) :=
  (impl_timed list t).bind fun y_1 =>
  if (!(y_1 == 0)) then
    some (([] : List Int), y_1)
  else
    (impl_indicesWhere__impl_OpenRequests_c1 (list.length : Int) list t).bind fun y_3 =>
    some (y_3, 0)

noncomputable def laws_FnServed_l1 (list : List Request) (star : List UInt8) (model : List Request) (open_ : List Int) : (Int × Int) → Option ((Int × Int) ⊕ Int)
  | (more, i) =>
    if (decide (i < (list.length : Int))) then
      ck (ixOk i model.length) <|
      ck (ixOk i list.length) <|
      some (.inl ((IntKind.i64.wrap ((IntKind.i64.wrap (more + ((model.getD i.toNat default).Done))) - ((list.getD i.toNat default).Done))), (IntKind.i64.wrap (i + 1))))
    else
      some (.inr more)

noncomputable def laws_FnServed_l2 (list : List Request) (star : List UInt8) (model : List Request) (open_ : List Int) (more : Int) : (Int × Int) → Option ((Int × Int) ⊕ (Int ⊕ Bool))
  | (mine, i) =>
    if (decide (i < (open_.length : Int))) then
      ck (ixOk i open_.length) <|
      if ((decide ((open_.getD i.toNat default) < 0)) || (decide ((list.length : Int) ≤ (open_.getD i.toNat default)))) then
        some (.inr (.inr false))
      else
        ck (ixOk (open_.getD i.toNat default) list.length) <|
        if (((list.getD (open_.getD i.toNat default).toNat default).Star) == star) then
          some (.inl ((IntKind.i64.wrap (mine + 1)), (IntKind.i64.wrap (i + 1))))
        else
          some (.inl (mine, (IntKind.i64.wrap (i + 1))))
    else
      some (.inr (.inl mine))

noncomputable def laws_FnServed_l3 (list : List Request) (star : List UInt8) (model : List Request) (open_ : List Int) : (Int × Int) → Option ((Int × Int) ⊕ Int)
  | (more, i) =>
    if (decide (i < (list.length : Int))) then
      ck (ixOk i model.length) <|
      ck (ixOk i list.length) <|
      some (.inl ((IntKind.i64.wrap ((IntKind.i64.wrap (more + ((model.getD i.toNat default).Done))) - ((list.getD i.toNat default).Done))), (IntKind.i64.wrap (i + 1))))
    else
      some (.inr more)

noncomputable def laws_FnServed_l4 (list : List Request) (star : List UInt8) (model : List Request) (open_ : List Int) (more : Int) : (Int × Int) → Option ((Int × Int) ⊕ (Int ⊕ Bool))
  | (mine, i) =>
    if (decide (i < (open_.length : Int))) then
      ck (ixOk i open_.length) <|
      if ((decide ((open_.getD i.toNat default) < 0)) || (decide ((list.length : Int) ≤ (open_.getD i.toNat default)))) then
        some (.inr (.inr false))
      else
        ck (ixOk (open_.getD i.toNat default) list.length) <|
        if (((list.getD (open_.getD i.toNat default).toNat default).Star) == star) then
          some (.inl ((IntKind.i64.wrap (mine + 1)), (IntKind.i64.wrap (i + 1))))
        else
          some (.inl (mine, (IntKind.i64.wrap (i + 1))))
    else
      some (.inr (.inl mine))

/-- laws.FnServed -/
noncomputable def laws_FnServed (code : List UInt8) : Option Bool :=
  (laws_f6big code).bind fun y_1 =>
  if y_1 then
    some true
  else
    (spec_DrawServeRequests code).bind fun y_3 =>
    (impl_ServeRequests y_3.1 y_3.2.1 y_3.2.2).bind fun y_4 =>
    (spec_ServeRequests y_3.1 y_3.2.1 y_3.2.2).bind fun y_5 =>
    (spec_DrawServeEstimates code).bind fun y_6 =>
    (impl_ServeEstimates y_6.1 y_6.2).bind fun y_7 =>
    (spec_ServeEstimates y_6.1 y_6.2).bind fun y_8 =>
    (spec_DrawExpireRequests code).bind fun y_9 =>
    (impl_ExpireRequests y_9.1 y_9.2).bind fun y_10 =>
    (spec_ExpireRequests y_9.1 y_9.2).bind fun y_11 =>
    (spec_DrawServedShare code).bind fun y_12 =>
    (impl_ServedShare y_12).bind fun y_13 =>
    (spec_ServedShare y_12).bind fun y_14 =>
    ck (!(!(!(y_4.2 == y_5.2))) || (spec_SameRequests y_4.1 y_5.1).isSome) <|
    ck (!(!(((!(y_4.2 == y_5.2)) || (!((spec_SameRequests y_4.1 y_5.1).getD default))) || (!(y_7.2 == y_8.2)))) || (spec_SameRequests y_7.1 y_8.1).isSome) <|
    ck (!(!(((((!(y_4.2 == y_5.2)) || (!((spec_SameRequests y_4.1 y_5.1).getD default))) || (!(y_7.2 == y_8.2))) || (!((spec_SameRequests y_7.1 y_8.1).getD default))) || (!(y_10.2 == y_11.2)))) || (spec_SameRequests y_10.1 y_11.1).isSome) <|
    if ((((((((!(y_4.2 == y_5.2)) || (!((spec_SameRequests y_4.1 y_5.1).getD default))) || (!(y_7.2 == y_8.2))) || (!((spec_SameRequests y_7.1 y_8.1).getD default))) || (!(y_10.2 == y_11.2))) || (!((spec_SameRequests y_10.1 y_11.1).getD default))) || (!(y_13.2 == y_14.2))) || (!((y_13.1.Num == y_14.1.Num) && (y_13.1.Den == y_14.1.Den)))) then
      some false
    else
      if ((y_13.2 == 0) && ((decide (y_13.1.Num < 0)) || (decide (y_13.1.Den < y_13.1.Num)))) then
        some false
      else
        if (y_10.2 == 0) then
          (impl_OpenRequests y_9.1 y_9.2).bind fun y_21 =>
          (impl_OpenRequests y_11.1 y_9.2).bind fun y_22 =>
          if (((!(y_21.2 == 0)) || (!(y_22.2 == 0))) || (!((y_21.1.length : Int) == (y_22.1.length : Int)))) then
            some false
          else
            if (!(y_4.2 == 0)) then
              some true
            else
              (impl_OpenRequests y_3.1 y_3.2.2).bind fun y_25 =>
              if (!(y_25.2 == 0)) then
                some false
              else
                (whileE (laws_FnServed_l1 y_3.1 y_3.2.1 y_5.1 y_25.1) (0, 0)).bind fun y_30 =>
                (whileE (laws_FnServed_l2 y_3.1 y_3.2.1 y_5.1 y_25.1 y_30) (0, 0)).bind fun y_36 =>
                match y_36 with
                | .inl y_36a =>
                  ck (!(y_30 == y_36a) || (impl_ValidRequests y_5.1).isSome) <|
                  some ((y_30 == y_36a) && ((impl_ValidRequests y_5.1).getD default))
                | .inr y_36b =>
                  some y_36b
        else
          if (!(y_4.2 == 0)) then
            some true
          else
            (impl_OpenRequests y_3.1 y_3.2.2).bind fun y_39 =>
            if (!(y_39.2 == 0)) then
              some false
            else
              (whileE (laws_FnServed_l3 y_3.1 y_3.2.1 y_5.1 y_39.1) (0, 0)).bind fun y_44 =>
              (whileE (laws_FnServed_l4 y_3.1 y_3.2.1 y_5.1 y_39.1 y_44) (0, 0)).bind fun y_50 =>
              match y_50 with
              | .inl y_50a =>
                ck (!(y_44 == y_50a) || (impl_ValidRequests y_5.1).isSome) <|
                some ((y_44 == y_50a) && ((impl_ValidRequests y_5.1).getD default))
              | .inr y_50b =>
                some y_50b

end Go.Proofs.Ytibabbjpkjmdeaa
