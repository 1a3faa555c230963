/- Typed forms of the functions that QU reaches. No condition. -/
import Derived.Test.YtibabbjpkjmdeaaGreatDoorEngSI
namespace Go.Proofs.YtibabbjpkjmdeaaGreatDoor
open Go Go.RowKit
set_option linter.unusedVariables false

structure Request where
  Star : List UInt8
  From : Int
  To : Int
  Wanted : Int
  Done : Int
  Priority : Int
  deriving Inhabited, DecidableEq
def Request_av (x : Request) : AV := .agg ([.str x.Star, .int .i64 x.From, .int .i64 x.To, .int .i64 x.Wanted, .int .i64 x.Done, .int .i64 x.Priority])

structure L00Src where
  code_ : List UInt8
  at_ : Int
  seed_ : Int
  deriving Inhabited, DecidableEq
def L00Src_av (x : L00Src) : AV := .agg ([.sl 1 (List.map byteAV x.code_), .int .i64 x.at_, .int .u64 x.seed_])

attribute [go_sem] Request_av L00Src_av

/-- laws.f6big -/
noncomputable def laws_f6big (code : List UInt8) : Option Bool :=
  some (decide (4096 < (code.length : Int)))

/-- spec.l00From -/
noncomputable def spec_l00From (code : List UInt8) : Option L00Src :=
  some (L00Src.mk code 0 0)

/-- (*spec.l00Src).next -/
noncomputable def spec_l00Src_next (s_ : L00Src) : Option (Int × L00Src) :=
  if (decide (s_.at_ < (s_.code_.length : Int))) then
    ck (ixOk s_.at_ s_.code_.length) <|
    if (decide ((IntKind.i64.wrap (s_.at_ + 1)) ≤ (s_.code_.length : Int))) then
      some (((s_.code_.getD s_.at_.toNat default).toNat : Int), (L00Src.mk s_.code_ (IntKind.i64.wrap (s_.at_ + 1)) (IntKind.u64.wrap ((IntKind.u64.wrap ((IntKind.u64.wrap (s_.seed_ * 6364136223846793005)) + (IntKind.u64.wrap ((s_.code_.getD s_.at_.toNat default).toNat : Int)))) + 1442695040888963407))))
    else
      ck (shOk 40) <|
      some ((IntKind.i64.wrap (IntKind.u64.wrap (BitVec.ofInt (IntKind.bits .u64) ((IntKind.u64.wrap ((IntKind.u64.wrap ((IntKind.u64.wrap (s_.seed_ * 6364136223846793005)) + (IntKind.u64.wrap ((s_.code_.getD s_.at_.toNat default).toNat : Int)))) + 1442695040888963407)).fdiv (2 ^ (min 40 64))) &&& BitVec.ofInt (IntKind.bits .u64) 255).toNat)), (L00Src.mk s_.code_ (IntKind.i64.wrap (s_.at_ + 1)) (IntKind.u64.wrap ((IntKind.u64.wrap ((IntKind.u64.wrap (s_.seed_ * 6364136223846793005)) + (IntKind.u64.wrap ((s_.code_.getD s_.at_.toNat default).toNat : Int)))) + 1442695040888963407))))
  else
    if (decide ((IntKind.i64.wrap (s_.at_ + 1)) ≤ (s_.code_.length : Int))) then
      some (0, (L00Src.mk s_.code_ (IntKind.i64.wrap (s_.at_ + 1)) (IntKind.u64.wrap ((IntKind.u64.wrap ((IntKind.u64.wrap (s_.seed_ * 6364136223846793005)) + (IntKind.u64.wrap 0))) + 1442695040888963407))))
    else
      ck (shOk 40) <|
      some ((IntKind.i64.wrap (IntKind.u64.wrap (BitVec.ofInt (IntKind.bits .u64) ((IntKind.u64.wrap ((IntKind.u64.wrap ((IntKind.u64.wrap (s_.seed_ * 6364136223846793005)) + (IntKind.u64.wrap 0))) + 1442695040888963407)).fdiv (2 ^ (min 40 64))) &&& BitVec.ofInt (IntKind.bits .u64) 255).toNat)), (L00Src.mk s_.code_ (IntKind.i64.wrap (s_.at_ + 1)) (IntKind.u64.wrap ((IntKind.u64.wrap ((IntKind.u64.wrap (s_.seed_ * 6364136223846793005)) + (IntKind.u64.wrap 0))) + 1442695040888963407))))

/-- (*spec.l00Src).pick -/
noncomputable def spec_l00Src_pick (s_ : L00Src) (n : Int) : Option (Int × L00Src) :=
  if (decide (n ≤ 1)) then
    some (0, s_)
  else
    (spec_l00Src_next s_).bind fun y_2 =>
    if (decide (200 < n)) then
      (spec_l00Src_next y_2.2).bind fun y_4 =>
      ck (nz n) <|
      some (((IntKind.i64.wrap ((IntKind.i64.wrap (y_2.1 * 256)) + y_4.1)).tmod n), y_4.2)
    else
      ck (nz n) <|
      some ((y_2.1.tmod n), y_2.2)

/-- (*spec.l00Src).one -/
noncomputable def spec_l00Src_one (s_ : L00Src) (n : Int) : Option (Bool × L00Src) :=
  (spec_l00Src_pick s_ n).bind fun y_1 =>
  some ((y_1.1 == 0), y_1.2)

/-- (*spec.l00Src).text -/
noncomputable def spec_l00Src_text (s_ : L00Src) (list : List (List UInt8)) : Option ((List UInt8) × L00Src) :=
  (spec_l00Src_pick s_ (list.length : Int)).bind fun y_1 =>
  ck (ixOk y_1.1 list.length) <|
  some ((list.getD y_1.1.toNat default), y_1.2)

/-- spec.l22New -/
noncomputable def spec_l22New (s_ : L00Src) : Option (Request × L00Src) :=
  (spec_l00Src_text s_ ([([109, 105, 114, 97] : List UInt8), ([114, 114, 45, 108, 121, 114] : List UInt8), ([115, 115, 45, 99, 121, 103] : List UInt8)] : List (List UInt8))).bind fun y_1 =>
  (spec_l00Src_pick y_1.2 25).bind fun y_2 =>
  (spec_l00Src_pick y_2.2 15).bind fun y_3 =>
  (spec_l00Src_pick y_3.2 5).bind fun y_4 =>
  (spec_l00Src_pick y_4.2 (IntKind.i64.wrap ((IntKind.i64.wrap (1 + y_4.1)) + 1))).bind fun y_5 =>
  (spec_l00Src_pick y_5.2 5).bind fun y_6 =>
  some ((Request.mk y_1.1 (IntKind.i64.wrap (1000 * y_2.1)) (IntKind.i64.wrap ((IntKind.i64.wrap (1000 * y_2.1)) + (IntKind.i64.wrap (1000 * y_3.1)))) (IntKind.i64.wrap (1 + y_4.1)) y_5.1 (IntKind.i64.wrap (1 + y_6.1))), y_6.2)

/-- (*spec.l00Src).among -/
noncomputable def spec_l00Src_among (s_ : L00Src) (list : List Int) : Option (Int × L00Src) :=
  (spec_l00Src_pick s_ (list.length : Int)).bind fun y_1 =>
  ck (ixOk y_1.1 list.length) <|
  some ((list.getD y_1.1.toNat default), y_1.2)

/-- spec.l22Spoil -/
noncomputable def spec_l22Spoil (s_ : L00Src) (x : Request) : Option (L00Src × Request) :=
  (spec_l00Src_pick s_ 5).bind fun y_1 =>
  if (y_1.1 == 0) then
    (spec_l00Src_text y_1.2 ([([] : List UInt8), ([77, 105, 114, 97] : List UInt8), ([120] : List UInt8)] : List (List UInt8))).bind fun y_3 =>
    some (y_3.2, (Request.mk y_3.1 x.From x.To x.Wanted x.Done x.Priority))
  else
    if (y_1.1 == 1) then
      (spec_l00Src_among y_1.2 ([(-1), 0, x.To, (IntKind.i64.wrap (x.To + 1))] : List Int)).bind fun y_5 =>
      some (y_5.2, (Request.mk x.Star y_5.1 x.To x.Wanted x.Done x.Priority))
    else
      if (y_1.1 == 2) then
        (spec_l00Src_among y_1.2 ([(-1), 10000000, 10000001] : List Int)).bind fun y_7 =>
        some (y_7.2, (Request.mk x.Star x.From y_7.1 x.Wanted x.Done x.Priority))
      else
        if (y_1.1 == 3) then
          (spec_l00Src_among y_1.2 ([0, x.Done, 100, 101, (-9223372036854775808)] : List Int)).bind fun y_9 =>
          some (y_9.2, (Request.mk x.Star x.From x.To y_9.1 x.Done x.Priority))
        else
          if (y_1.1 == 4) then
            (spec_l00Src_among y_1.2 ([0, 1, 5, 6] : List Int)).bind fun y_11 =>
            some (y_11.2, (Request.mk x.Star x.From x.To x.Wanted x.Done y_11.1))
          else
            some (y_1.2, x)

/-- spec.l22Spoil -/
noncomputable def spec_l22Spoil_ix1 (s_ : L00Src) (x : List Request) (x_ix : Int) : Option (L00Src × (List Request)) :=
  ck (ixOk x_ix x.length) <|
  (spec_l00Src_pick s_ 5).bind fun y_2 =>
  if (y_2.1 == 0) then
    (spec_l00Src_text y_2.2 ([([] : List UInt8), ([77, 105, 114, 97] : List UInt8), ([120] : List UInt8)] : List (List UInt8))).bind fun y_4 =>
    ck ((x.set x_ix.toNat (Request.mk y_4.1 ((x.getD x_ix.toNat default).From) ((x.getD x_ix.toNat default).To) ((x.getD x_ix.toNat default).Wanted) ((x.getD x_ix.toNat default).Done) ((x.getD x_ix.toNat default).Priority))).length == x.length) <|
    some (y_4.2, (x.set x_ix.toNat (Request.mk y_4.1 ((x.getD x_ix.toNat default).From) ((x.getD x_ix.toNat default).To) ((x.getD x_ix.toNat default).Wanted) ((x.getD x_ix.toNat default).Done) ((x.getD x_ix.toNat default).Priority))))
  else
    if (y_2.1 == 1) then
      (spec_l00Src_among y_2.2 ([(-1), 0, (x.getD x_ix.toNat default).To, (IntKind.i64.wrap (((x.getD x_ix.toNat default).To) + 1))] : List Int)).bind fun y_7 =>
      ck ((x.set x_ix.toNat (Request.mk ((x.getD x_ix.toNat default).Star) y_7.1 ((x.getD x_ix.toNat default).To) ((x.getD x_ix.toNat default).Wanted) ((x.getD x_ix.toNat default).Done) ((x.getD x_ix.toNat default).Priority))).length == x.length) <|
      some (y_7.2, (x.set x_ix.toNat (Request.mk ((x.getD x_ix.toNat default).Star) y_7.1 ((x.getD x_ix.toNat default).To) ((x.getD x_ix.toNat default).Wanted) ((x.getD x_ix.toNat default).Done) ((x.getD x_ix.toNat default).Priority))))
    else
      if (y_2.1 == 2) then
        (spec_l00Src_among y_2.2 ([(-1), 10000000, 10000001] : List Int)).bind fun y_10 =>
        ck ((x.set x_ix.toNat (Request.mk ((x.getD x_ix.toNat default).Star) ((x.getD x_ix.toNat default).From) y_10.1 ((x.getD x_ix.toNat default).Wanted) ((x.getD x_ix.toNat default).Done) ((x.getD x_ix.toNat default).Priority))).length == x.length) <|
        some (y_10.2, (x.set x_ix.toNat (Request.mk ((x.getD x_ix.toNat default).Star) ((x.getD x_ix.toNat default).From) y_10.1 ((x.getD x_ix.toNat default).Wanted) ((x.getD x_ix.toNat default).Done) ((x.getD x_ix.toNat default).Priority))))
      else
        if (y_2.1 == 3) then
          (spec_l00Src_among y_2.2 ([0, (x.getD x_ix.toNat default).Done, 100, 101, (-9223372036854775808)] : List Int)).bind fun y_13 =>
          ck ((x.set x_ix.toNat (Request.mk ((x.getD x_ix.toNat default).Star) ((x.getD x_ix.toNat default).From) ((x.getD x_ix.toNat default).To) y_13.1 ((x.getD x_ix.toNat default).Done) ((x.getD x_ix.toNat default).Priority))).length == x.length) <|
          some (y_13.2, (x.set x_ix.toNat (Request.mk ((x.getD x_ix.toNat default).Star) ((x.getD x_ix.toNat default).From) ((x.getD x_ix.toNat default).To) y_13.1 ((x.getD x_ix.toNat default).Done) ((x.getD x_ix.toNat default).Priority))))
        else
          if (y_2.1 == 4) then
            (spec_l00Src_among y_2.2 ([0, 1, 5, 6] : List Int)).bind fun y_16 =>
            ck ((x.set x_ix.toNat (Request.mk ((x.getD x_ix.toNat default).Star) ((x.getD x_ix.toNat default).From) ((x.getD x_ix.toNat default).To) ((x.getD x_ix.toNat default).Wanted) ((x.getD x_ix.toNat default).Done) y_16.1)).length == x.length) <|
            some (y_16.2, (x.set x_ix.toNat (Request.mk ((x.getD x_ix.toNat default).Star) ((x.getD x_ix.toNat default).From) ((x.getD x_ix.toNat default).To) ((x.getD x_ix.toNat default).Wanted) ((x.getD x_ix.toNat default).Done) y_16.1)))
          else
            some (y_2.2, x)

noncomputable def spec_l22Bent_l1  : (L00Src × (List Request) × Int) → Option ((L00Src × (List Request) × Int) ⊕ (L00Src × (List Request)))
  | (s_, list, k) =>
    if (decide (0 < k)) then
      (spec_l22New s_).bind fun y_6 =>
      ck (appOk (list.length + ([y_6.1] : List Request).length) 56) <|
      some (.inl (y_6.2, (list ++ ([y_6.1] : List Request)), (IntKind.i64.wrap (k - 1))))
    else
      some (.inr (s_, list))

noncomputable def spec_l22Bent_l2  : (L00Src × (List Request) × Int) → Option ((L00Src × (List Request) × Int) ⊕ (L00Src × (List Request)))
  | (s_, list, k) =>
    if (decide (0 < k)) then
      (spec_l22New s_).bind fun y_16 =>
      ck (appOk (list.length + ([y_16.1] : List Request).length) 56) <|
      some (.inl (y_16.2, (list ++ ([y_16.1] : List Request)), (IntKind.i64.wrap (k - 1))))
    else
      some (.inr (s_, list))

/-- spec.l22Bent -/
noncomputable def spec_l22Bent (s_ : L00Src) : Option ((List Request) × L00Src) :=
  (spec_l00Src_pick s_ 7).bind fun y_1 =>
  (spec_l00Src_one y_1.2 24).bind fun y_2 =>
  if y_2.1 then
    (spec_l00Src_pick y_2.2 2).bind fun y_4 =>
    (whileE (spec_l22Bent_l1) (y_4.2, ([] : List Request), (IntKind.i64.wrap (30 + y_4.1)))).bind fun y_8 =>
    if (decide (0 < (y_8.2.length : Int))) then
      (spec_l00Src_one y_8.1 8).bind fun y_10 =>
      if ((decide (0 < (y_8.2.length : Int))) && y_10.1) then
        (spec_l00Src_pick y_10.2 (y_8.2.length : Int)).bind fun y_12 =>
        ck (ixOk y_12.1 y_8.2.length) <|
        (spec_l22Spoil_ix1 y_12.2 y_8.2 y_12.1).bind fun y_14 =>
        some (y_14.2, y_14.1)
      else
        some (y_8.2, y_10.2)
    else
      some (y_8.2, y_8.1)
  else
    (whileE (spec_l22Bent_l2) (y_2.2, ([] : List Request), y_1.1)).bind fun y_18 =>
    if (decide (0 < (y_18.2.length : Int))) then
      (spec_l00Src_one y_18.1 8).bind fun y_20 =>
      if ((decide (0 < (y_18.2.length : Int))) && y_20.1) then
        (spec_l00Src_pick y_20.2 (y_18.2.length : Int)).bind fun y_22 =>
        ck (ixOk y_22.1 y_18.2.length) <|
        (spec_l22Spoil_ix1 y_22.2 y_18.2 y_22.1).bind fun y_24 =>
        some (y_24.2, y_24.1)
      else
        some (y_18.2, y_20.2)
    else
      some (y_18.2, y_18.1)

/-- spec.l06When -/
noncomputable def spec_l06When (s_ : L00Src) : Option (Int × L00Src) :=
  (spec_l00Src_one s_ 12).bind fun y_1 =>
  if y_1.1 then
    (spec_l00Src_among y_1.2 ([(-1), 0, 10000000, 10000001] : List Int)).bind fun y_3 =>
    some (y_3.1, y_3.2)
  else
    (spec_l00Src_pick y_1.2 33).bind fun y_4 =>
    some ((IntKind.i64.wrap (1000 * y_4.1)), y_4.2)

/-- spec.l22Ask -/
noncomputable def spec_l22Ask (code : List UInt8) : Option ((List Request) × Int) :=
  (spec_l00From code).bind fun y_1 =>
  (spec_l22Bent y_1).bind fun y_2 =>
  (spec_l06When y_2.2).bind fun y_3 =>
  some (y_2.1, y_3.1)

/-- spec.DrawNextRequest -/
noncomputable def spec_DrawNextRequest (code : List UInt8) : Option ((List Request) × Int) :=
  (spec_l22Ask code).bind fun y_1 =>
  some (y_1.1, y_1.2)

/-- impl.in -/
noncomputable def impl_in (n : Int) (low : Int) (high : Int) : Option Bool :=
  some ((decide (low ≤ n)) && (decide (n ≤ high)))

/-- impl.ValidTime -/
noncomputable def impl_ValidTime (t : Int) : Option Bool :=
  (impl_in t 0 10000000).bind fun y_1 =>
  some y_1

noncomputable def impl_IsName_l1 (s_ : List UInt8) (t15 : Int) : Int → Option (Int ⊕ (Unit ⊕ Bool))
  | t16 =>
    if (decide (t16 < t15)) then
      ck (ixOk t16 s_.length) <|
      if ((!((decide (97 ≤ ((s_.getD t16.toNat 0).toNat : Int))) && (decide (((s_.getD t16.toNat 0).toNat : Int) ≤ 122)))) && ((t16 == 0) || (!(((decide (48 ≤ ((s_.getD t16.toNat 0).toNat : Int))) && (decide (((s_.getD t16.toNat 0).toNat : Int) ≤ 57))) || (((s_.getD t16.toNat 0).toNat : Int) == 45))))) then
        some (.inr (.inr false))
      else
        some (.inl (IntKind.i64.wrap (t16 + 1)))
    else
      some (.inr (.inl ()))

/-- impl.IsName -/
noncomputable def impl_IsName (s_ : List UInt8) : Option Bool :=
  if ((decide ((s_.length : Int) < 1)) || (decide (12 < (s_.length : Int)))) then
    some false
  else
    (whileE (impl_IsName_l1 s_ (s_.length : Int)) 0).bind fun y_5 =>
    match y_5 with
    | .inl y_5a =>
      some true
    | .inr y_5b =>
      some y_5b

/-- impl.isRequest -/
noncomputable def impl_isRequest (x : Request) : Option Bool :=
  (impl_ValidTime x.From).bind fun y_1 =>
  ck (!y_1 || (impl_ValidTime x.To).isSome) <|
  (impl_IsName x.Star).bind fun y_3 =>
  ck (!(y_3 && ((y_1 && ((impl_ValidTime x.To).getD default)) && (decide (x.From ≤ x.To)))) || (impl_in x.Wanted 1 100).isSome) <|
  ck (!((y_3 && ((y_1 && ((impl_ValidTime x.To).getD default)) && (decide (x.From ≤ x.To)))) && ((impl_in x.Wanted 1 100).getD default)) || (impl_in x.Done 0 x.Wanted).isSome) <|
  ck (!(((y_3 && ((y_1 && ((impl_ValidTime x.To).getD default)) && (decide (x.From ≤ x.To)))) && ((impl_in x.Wanted 1 100).getD default)) && ((impl_in x.Done 0 x.Wanted).getD default)) || (impl_in x.Priority 1 5).isSome) <|
  some ((((y_3 && ((y_1 && ((impl_ValidTime x.To).getD default)) && (decide (x.From ≤ x.To)))) && ((impl_in x.Wanted 1 100).getD default)) && ((impl_in x.Done 0 x.Wanted).getD default)) && ((impl_in x.Priority 1 5).getD default))

/-- impl.ValidRequests$1 -/
noncomputable def impl_ValidRequests_c1 (x : Request) : Option Bool :=
  (impl_isRequest x).bind fun y_1 =>
  some (!y_1)

noncomputable def slices_IndexFunc_impl_Request_impl_Request__impl_ValidRequests_c1_l1 (s_ : List Request) (t7 : Int) : Int → Option (Int ⊕ (Unit ⊕ Int))
  | t8 =>
    if (decide (t8 < t7)) then
      ck (ixOk t8 s_.length) <|
      (impl_ValidRequests_c1 (s_.getD t8.toNat default)).bind fun y_3 =>
      if y_3 then
        some (.inr (.inr t8))
      else
        some (.inl (IntKind.i64.wrap (t8 + 1)))
    else
      some (.inr (.inl ()))

/-- slices.IndexFunc[[]impl.Request,impl.Request] -/
noncomputable def slices_IndexFunc_impl_Request_impl_Request__impl_ValidRequests_c1 (s_ : List Request) : Option Int :=
  (whileE (slices_IndexFunc_impl_Request_impl_Request__impl_ValidRequests_c1_l1 s_ (s_.length : Int)) 0).bind fun y_5 =>
  match y_5 with
  | .inl y_5a =>
    some (-1)
  | .inr y_5b =>
    some y_5b

/-- slices.ContainsFunc[[]impl.Request,impl.Request] -/
noncomputable def slices_ContainsFunc_impl_Request_impl_Request__impl_ValidRequests_c1 (s_ : List Request) : Option Bool :=
  (slices_IndexFunc_impl_Request_impl_Request__impl_ValidRequests_c1 s_).bind fun y_1 =>
  some (decide (0 ≤ y_1))

/-- impl.ValidRequests -/
noncomputable def impl_ValidRequests (list : List Request) : Option Bool :=
  ck (!(decide ((list.length : Int) ≤ 30)) || (slices_ContainsFunc_impl_Request_impl_Request__impl_ValidRequests_c1 list).isSome) <|
  some ((decide ((list.length : Int) ≤ 30)) && (!((slices_ContainsFunc_impl_Request_impl_Request__impl_ValidRequests_c1 list).getD default)))

/-- impl.timed -/
noncomputable def impl_timed (list : List Request) (t : Int) : Option Int :=
  (impl_ValidRequests list).bind fun y_1 =>
  if (!y_1) then
    some 1
  else
    (impl_ValidTime t).bind fun y_3 =>
    if (!y_3) then
      some 2
    else
      some 0

/-- (impl.Request).open -/
noncomputable def impl_Request_open (x : Request) (t : Int) : Option Bool :=
  (impl_in t x.From x.To).bind fun y_1 =>
  some (y_1 && (decide (x.Done < x.Wanted)))

noncomputable def impl_next_l1 (list : List Request) (t : Int) (t8 : List Request) (t9 : Int) : (Int × Int) → Option ((Int × Int) ⊕ Int)
  | (best, t10) =>
    if (decide (t10 < t9)) then
      ck (ixOk t10 t8.length) <|
      (impl_Request_open (t8.getD t10.toNat default) t).bind fun y_3 =>
      if (!y_3) then
        some (.inl (best, (IntKind.i64.wrap (t10 + 1))))
      else
        ck (!(!(decide (best < 0))) || ixOk best list.length) <|
        ck (!(!((decide (best < 0)) || (decide (((list.getD best.toNat default).Priority) < ((t8.getD t10.toNat default).Priority))))) || ixOk best list.length) <|
        ck (!((!((decide (best < 0)) || (decide (((list.getD best.toNat default).Priority) < ((t8.getD t10.toNat default).Priority))))) && (((t8.getD t10.toNat default).Priority) == ((list.getD best.toNat default).Priority))) || ixOk best list.length) <|
        if (((decide (best < 0)) || (decide (((list.getD best.toNat default).Priority) < ((t8.getD t10.toNat default).Priority)))) || ((((t8.getD t10.toNat default).Priority) == ((list.getD best.toNat default).Priority)) && (decide (((t8.getD t10.toNat default).To) < ((list.getD best.toNat default).To))))) then
          some (.inl (t10, (IntKind.i64.wrap (t10 + 1))))
        else
          some (.inl (best, (IntKind.i64.wrap (t10 + 1))))
    else
      some (.inr best)

/-- impl.next -/
noncomputable def impl_next (list : List Request) (t : Int) : Option Int :=
  (whileE (impl_next_l1 list t list (list.length : Int)) ((-1), 0)).bind fun y_9 =>
  some y_9

/-- impl.NextRequest -/
noncomputable def impl_NextRequest (list : List Request) (t : Int) : Option (Int × Int) :=
  (impl_timed list t).bind fun y_1 =>
  if (!(y_1 == 0)) then
    some (0, y_1)
  else
    (impl_next list t).bind fun y_3 =>
    if (decide (y_3 < 0)) then
      some (0, 3)
    else
      some (y_3, 0)

/-- spec.l01Small -/
noncomputable def spec_l01Small (c : UInt8) : Option Bool :=
  some ((decide (97 ≤ (c.toNat : Int))) && (decide ((c.toNat : Int) ≤ 122)))

/-- spec.l01Digit -/
noncomputable def spec_l01Digit (c : UInt8) : Option Bool :=
  some ((decide (48 ≤ (c.toNat : Int))) && (decide ((c.toNat : Int) ≤ 57)))

noncomputable def spec_IsName_l1 (s_ : List UInt8) : Int → Option (Int ⊕ (Unit ⊕ Bool))
  | i =>
    if (decide (i < (s_.length : Int))) then
      ck (ixOk i s_.length) <|
      (spec_l01Small (s_.getD i.toNat 0)).bind fun y_6 =>
      ck (!(!y_6) || (spec_l01Digit (s_.getD i.toNat 0)).isSome) <|
      if (((!y_6) && (!((spec_l01Digit (s_.getD i.toNat 0)).getD default))) && (!(((s_.getD i.toNat 0).toNat : Int) == 45))) then
        some (.inr (.inr false))
      else
        some (.inl (IntKind.i64.wrap (i + 1)))
    else
      some (.inr (.inl ()))

/-- spec.IsName -/
noncomputable def spec_IsName (s_ : List UInt8) : Option Bool :=
  ck (!(!((s_ == ([] : List UInt8)) || (decide (12 < (s_.length : Int))))) || ixOk 0 s_.length) <|
  ck (!(!((s_ == ([] : List UInt8)) || (decide (12 < (s_.length : Int))))) || (spec_l01Small (s_.getD 0 0)).isSome) <|
  if (((s_ == ([] : List UInt8)) || (decide (12 < (s_.length : Int)))) || (!((spec_l01Small (s_.getD 0 0)).getD default))) then
    some false
  else
    (whileE (spec_IsName_l1 s_) 0).bind fun y_9 =>
    match y_9 with
    | .inl y_9a =>
      some true
    | .inr y_9b =>
      some y_9b

/-- spec.l00In -/
noncomputable def spec_l00In (n : Int) (low : Int) (high : Int) : Option Bool :=
  some ((decide (low ≤ n)) && (decide (n ≤ high)))

/-- spec.l03Time -/
noncomputable def spec_l03Time (t : Int) : Option Bool :=
  (spec_l00In t 0 10000000).bind fun y_1 =>
  some y_1

/-- spec.l22One -/
noncomputable def spec_l22One (x : Request) : Option Bool :=
  (spec_IsName x.Star).bind fun y_1 =>
  ck (!y_1 || (spec_l03Time x.From).isSome) <|
  ck (!(y_1 && ((spec_l03Time x.From).getD default)) || (spec_l00In x.To x.From 10000000).isSome) <|
  ck (!((y_1 && ((spec_l03Time x.From).getD default)) && ((spec_l00In x.To x.From 10000000).getD default)) || (spec_l00In x.Wanted 1 100).isSome) <|
  ck (!(((y_1 && ((spec_l03Time x.From).getD default)) && ((spec_l00In x.To x.From 10000000).getD default)) && ((spec_l00In x.Wanted 1 100).getD default)) || (spec_l00In x.Done 0 x.Wanted).isSome) <|
  ck (!((((y_1 && ((spec_l03Time x.From).getD default)) && ((spec_l00In x.To x.From 10000000).getD default)) && ((spec_l00In x.Wanted 1 100).getD default)) && ((spec_l00In x.Done 0 x.Wanted).getD default)) || (spec_l00In x.Priority 1 5).isSome) <|
  some (((((y_1 && ((spec_l03Time x.From).getD default)) && ((spec_l00In x.To x.From 10000000).getD default)) && ((spec_l00In x.Wanted 1 100).getD default)) && ((spec_l00In x.Done 0 x.Wanted).getD default)) && ((spec_l00In x.Priority 1 5).getD default))

noncomputable def spec_l22Ok_l1 (list : List Request) : Int → Option (Int ⊕ (Unit ⊕ Bool))
  | i =>
    if (decide (i < (list.length : Int))) then
      ck (ixOk i list.length) <|
      (spec_l22One (list.getD i.toNat default)).bind fun y_3 =>
      if (!y_3) then
        some (.inr (.inr false))
      else
        some (.inl (IntKind.i64.wrap (i + 1)))
    else
      some (.inr (.inl ()))

/-- spec.l22Ok -/
noncomputable def spec_l22Ok (list : List Request) : Option Bool :=
  (whileE (spec_l22Ok_l1 list) 0).bind fun y_5 =>
  match y_5 with
  | .inl y_5a =>
    some (decide ((list.length : Int) ≤ 30))
  | .inr y_5b =>
    some y_5b

/-- spec.l22Code -/
noncomputable def spec_l22Code (list : List Request) (t : Int) : Option Int :=
  (spec_l22Ok list).bind fun y_1 =>
  if (!y_1) then
    some 1
  else
    (spec_l03Time t).bind fun y_3 =>
    if (!y_3) then
      some 2
    else
      some 0

/-- spec.l22Open -/
noncomputable def spec_l22Open (x : Request) (t : Int) : Option Bool :=
  (spec_l00In t x.From x.To).bind fun y_1 =>
  some (y_1 && (decide (x.Done < x.Wanted)))

/-- spec.l22Before -/
noncomputable def spec_l22Before (a : Request) (b : Request) : Option Bool :=
  if (!(a.Priority == b.Priority)) then
    some (decide (b.Priority < a.Priority))
  else
    some (decide (a.To < b.To))

noncomputable def spec_l22Next_l1 (list : List Request) (t : Int) : (Int × Int) → Option ((Int × Int) ⊕ Int)
  | (best, i) =>
    if (decide (i < (list.length : Int))) then
      ck (ixOk i list.length) <|
      (spec_l22Open (list.getD i.toNat default) t).bind fun y_3 =>
      ck (!(y_3 && !(decide (best < 0))) || ixOk best list.length) <|
      ck (!(y_3 && !(decide (best < 0))) || (spec_l22Before (list.getD i.toNat default) (list.getD best.toNat default)).isSome) <|
      if (y_3 && ((decide (best < 0)) || ((spec_l22Before (list.getD i.toNat default) (list.getD best.toNat default)).getD default))) then
        some (.inl (i, (IntKind.i64.wrap (i + 1))))
      else
        some (.inl (best, (IntKind.i64.wrap (i + 1))))
    else
      some (.inr best)

/-- spec.l22Next -/
noncomputable def spec_l22Next (list : List Request) (t : Int) : Option Int :=
  (whileE (spec_l22Next_l1 list t) ((-1), 0)).bind fun y_7 =>
  some y_7

/-- spec.NextRequest -/
noncomputable def spec_NextRequest (list : List Request) (t : Int) : Option (Int × Int) :=
  (spec_l22Code list t).bind fun y_1 =>
  if (!(y_1 == 0)) then
    some (0, y_1)
  else
    (spec_l22Next list t).bind fun y_3 =>
    if (decide (y_3 < 0)) then
      some (0, 3)
    else
      some (y_3, 0)

/-- impl.OpenRequests$1 -/
noncomputable def impl_OpenRequests_c1 (i : Int) (t1 : List Request) (t2 : Int) : Option Bool :=
  ck (ixOk i t1.length) <|
  (impl_Request_open (t1.getD i.toNat default) t2).bind fun y_2 =>
  some y_2

noncomputable def impl_indicesWhere__impl_OpenRequests_c1_l1 (c : List Request) (c2 : Int) (t8 : Int) : ((List Int) × Int) → Option (((List Int) × Int) ⊕ (List Int))
  | (out, t9) =>
    if (decide (t9 < t8)) then
      (impl_OpenRequests_c1 t9 c c2).bind fun y_2 =>
      if y_2 then
        ck (appOk (out.length + ([t9] : List Int).length) 8) <|
        some (.inl ((out ++ ([t9] : List Int)), (IntKind.i64.wrap (t9 + 1))))
      else
        some (.inl (out, (IntKind.i64.wrap (t9 + 1))))
    else
      some (.inr out)

/-- impl.indicesWhere -/
noncomputable def impl_indicesWhere__impl_OpenRequests_c1 (n : Int) (wanted_c0 : List Request) (wanted_c1 : Int) : Option (List Int) :=
  (whileE (impl_indicesWhere__impl_OpenRequests_c1_l1 wanted_c0 wanted_c1 n) (([] : List Int), 0)).bind fun y_5 =>
  some y_5

/-- impl.OpenRequests -/
noncomputable def impl_OpenRequests (list : List Request) (t : Int) : Option ((List Int) × Int) :=
  (impl_timed list t).bind fun y_1 =>
  if (!(y_1 == 0)) then
    some (([] : List Int), y_1)
  else
    (impl_indicesWhere__impl_OpenRequests_c1 (list.length : Int) list t).bind fun y_3 =>
    some (y_3, 0)

noncomputable def spec_OpenRequests_l1 (list : List Request) (t : Int) : ((List Int) × Int) → Option (((List Int) × Int) ⊕ (List Int))
  | (out, i) =>
    if (decide (i < (list.length : Int))) then
      ck (ixOk i list.length) <|
      (spec_l22Open (list.getD i.toNat default) t).bind fun y_5 =>
      if y_5 then
        ck (appOk (out.length + ([i] : List Int).length) 8) <|
        some (.inl ((out ++ ([i] : List Int)), (IntKind.i64.wrap (i + 1))))
      else
        some (.inl (out, (IntKind.i64.wrap (i + 1))))
    else
      some (.inr out)

/-- spec.OpenRequests -/
noncomputable def spec_OpenRequests (list : List Request) (t : Int) : Option ((List Int) × Int) :=
  (spec_l22Code list t).bind fun y_1 =>
  if (!(y_1 == 0)) then
    some (([] : List Int), y_1)
  else
    (whileE (spec_OpenRequests_l1 list t) (([] : List Int), 0)).bind fun y_8 =>
    some (y_8, 0)

noncomputable def spec_DrawPlanSlots_l1 (list : List Request) : (L00Src × (List Int) × Int × Int) → Option ((L00Src × (List Int) × Int × Int) ⊕ (L00Src × (List Int)))
  | (s_, slots, at_, k) =>
    if (decide (0 < k)) then
      ck (appOk (slots.length + ([at_] : List Int).length) 8) <|
      (spec_l00Src_pick s_ 6).bind fun y_7 =>
      some (.inl (y_7.2, (slots ++ ([at_] : List Int)), (IntKind.i64.wrap (at_ + (IntKind.i64.wrap (500 * (IntKind.i64.wrap (1 + y_7.1)))))), (IntKind.i64.wrap (k - 1))))
    else
      some (.inr (s_, slots))

noncomputable def spec_DrawPlanSlots_l2 (list : List Request) : ((List Int) × Int) → Option (((List Int) × Int) ⊕ (List Int))
  | (slots, k) =>
    if (decide (0 < k)) then
      ck (appOk (slots.length + ([(IntKind.i64.wrap (300 * (slots.length : Int)))] : List Int).length) 8) <|
      some (.inl ((slots ++ ([(IntKind.i64.wrap (300 * (slots.length : Int)))] : List Int)), (IntKind.i64.wrap (k - 1))))
    else
      some (.inr slots)

/-- spec.DrawPlanSlots -/
noncomputable def spec_DrawPlanSlots (code : List UInt8) : Option ((List Request) × (List Int)) :=
  (spec_l00From code).bind fun y_1 =>
  (spec_l22Bent y_1).bind fun y_2 =>
  (spec_l00Src_pick y_2.2 20).bind fun y_3 =>
  (spec_l00Src_pick y_3.2 12).bind fun y_4 =>
  (whileE (spec_DrawPlanSlots_l1 y_2.1) (y_4.2, ([] : List Int), (IntKind.i64.wrap (500 * y_3.1)), y_4.1)).bind fun y_8 =>
  (spec_l00Src_pick y_8.1 20).bind fun y_9 =>
  if (y_9.1 == 0) then
    (spec_l00Src_among y_9.2 ([(-1), 0, 10000000, 10000001] : List Int)).bind fun y_11 =>
    ck (appOk (y_8.2.length + ([y_11.1] : List Int).length) 8) <|
    some (y_2.1, (y_8.2 ++ ([y_11.1] : List Int)))
  else
    if (y_9.1 == 1) then
      (spec_l00Src_pick y_9.2 2).bind fun y_14 =>
      (whileE (spec_DrawPlanSlots_l2 y_2.1) (([] : List Int), (IntKind.i64.wrap (100 + y_14.1)))).bind fun y_17 =>
      some (y_2.1, y_17)
    else
      some (y_2.1, y_8.2)

/-- impl.allIn$1 -/
noncomputable def impl_allIn_c1 (n : Int) (t1 : Int) (t2 : Int) : Option Bool :=
  (impl_in n t1 t2).bind fun y_1 =>
  some (!y_1)

noncomputable def slices_IndexFunc_int64_int64__impl_allIn_c1_l1 (s_ : List Int) (c : Int) (c2 : Int) (t7 : Int) : Int → Option (Int ⊕ (Unit ⊕ Int))
  | t8 =>
    if (decide (t8 < t7)) then
      ck (ixOk t8 s_.length) <|
      (impl_allIn_c1 (s_.getD t8.toNat default) c c2).bind fun y_3 =>
      if y_3 then
        some (.inr (.inr t8))
      else
        some (.inl (IntKind.i64.wrap (t8 + 1)))
    else
      some (.inr (.inl ()))

/-- slices.IndexFunc[[]int64,int64] -/
noncomputable def slices_IndexFunc_int64_int64__impl_allIn_c1 (s_ : List Int) (f_c0 : Int) (f_c1 : Int) : Option Int :=
  (whileE (slices_IndexFunc_int64_int64__impl_allIn_c1_l1 s_ f_c0 f_c1 (s_.length : Int)) 0).bind fun y_5 =>
  match y_5 with
  | .inl y_5a =>
    some (-1)
  | .inr y_5b =>
    some y_5b

/-- slices.ContainsFunc[[]int64,int64] -/
noncomputable def slices_ContainsFunc_int64_int64__impl_allIn_c1 (s_ : List Int) (f_c0 : Int) (f_c1 : Int) : Option Bool :=
  (slices_IndexFunc_int64_int64__impl_allIn_c1 s_ f_c0 f_c1).bind fun y_1 =>
  some (decide (0 ≤ y_1))

/-- impl.allIn -/
noncomputable def impl_allIn (list : List Int) (low : Int) (high : Int) : Option Bool :=
  (slices_ContainsFunc_int64_int64__impl_allIn_c1 list low high).bind fun y_1 =>
  some (!y_1)

noncomputable def impl_areTimes_l1 (list : List Int) : Int → Option (Int ⊕ (Unit ⊕ Bool))
  | i =>
    if (decide (i < (list.length : Int))) then
      ck (ixOk (IntKind.i64.wrap (i - 1)) list.length) <|
      ck (ixOk i list.length) <|
      if (decide ((list.getD i.toNat default) ≤ (list.getD (IntKind.i64.wrap (i - 1)).toNat default))) then
        some (.inr (.inr false))
      else
        some (.inl (IntKind.i64.wrap (i + 1)))
    else
      some (.inr (.inl ()))

/-- impl.areTimes -/
noncomputable def impl_areTimes (list : List Int) (most : Int) : Option Bool :=
  ck (!(!(decide (most < (list.length : Int)))) || (impl_allIn list 0 10000000).isSome) <|
  if ((decide (most < (list.length : Int))) || (!((impl_allIn list 0 10000000).getD default))) then
    some false
  else
    (whileE (impl_areTimes_l1 list) 1).bind fun y_7 =>
    match y_7 with
    | .inl y_7a =>
      some true
    | .inr y_7b =>
      some y_7b

/-- impl.copyOf[impl.Request] -/
noncomputable def impl_copyOf_impl_Request (list : List Request) : Option (List Request) :=
  ck (appOk (([] : List Request).length + list.length) 56) <|
  some (([] : List Request) ++ list)

noncomputable def impl_PlanSlots_l1 (t22 : List Int) (t23 : Int) : ((List Request) × (List Int) × Int) → Option (((List Request) × (List Int) × Int) ⊕ (List Int))
  | (left_, out, t24) =>
    if (decide (t24 < t23)) then
      ck (ixOk t24 t22.length) <|
      (impl_next left_ (t22.getD t24.toNat default)).bind fun y_8 =>
      if (decide (0 ≤ y_8)) then
        ck (ixOk y_8 left_.length) <|
        ck (appOk (out.length + ([y_8] : List Int).length) 8) <|
        some (.inl ((left_.set y_8.toNat (Request.mk ((left_.getD y_8.toNat default).Star) ((left_.getD y_8.toNat default).From) ((left_.getD y_8.toNat default).To) ((left_.getD y_8.toNat default).Wanted) (IntKind.i64.wrap (((left_.getD y_8.toNat default).Done) + 1)) ((left_.getD y_8.toNat default).Priority))), (out ++ ([y_8] : List Int)), (IntKind.i64.wrap (t24 + 1))))
      else
        ck (appOk (out.length + ([y_8] : List Int).length) 8) <|
        some (.inl (left_, (out ++ ([y_8] : List Int)), (IntKind.i64.wrap (t24 + 1))))
    else
      some (.inr out)

/-- impl.PlanSlots -/
noncomputable def impl_PlanSlots (list : List Request) (slots : List Int) : Option ((List Int) × Int) :=
  (impl_ValidRequests list).bind fun y_1 =>
  if (!y_1) then
    some (([] : List Int), 1)
  else
    (impl_areTimes slots 100).bind fun y_3 =>
    if (!y_3) then
      some (([] : List Int), 2)
    else
      (impl_copyOf_impl_Request list).bind fun y_5 =>
      (whileE (impl_PlanSlots_l1 slots (slots.length : Int)) (y_5, ([] : List Int), 0)).bind fun y_13 =>
      some (y_13, 0)

noncomputable def spec_l00Rises_l1 (list : List Int) (low : Int) (high : Int) : Int → Option (Int ⊕ (Unit ⊕ Bool))
  | i =>
    if (decide (i < (list.length : Int))) then
      ck (ixOk i list.length) <|
      (spec_l00In (list.getD i.toNat default) low high).bind fun y_3 =>
      ck (!((!(!y_3)) && (decide (0 < i))) || ixOk (IntKind.i64.wrap (i - 1)) list.length) <|
      if ((!y_3) || ((decide (0 < i)) && (decide ((list.getD i.toNat default) ≤ (list.getD (IntKind.i64.wrap (i - 1)).toNat default))))) then
        some (.inr (.inr false))
      else
        some (.inl (IntKind.i64.wrap (i + 1)))
    else
      some (.inr (.inl ()))

/-- spec.l00Rises -/
noncomputable def spec_l00Rises (list : List Int) (low : Int) (high : Int) : Option Bool :=
  (whileE (spec_l00Rises_l1 list low high) 0).bind fun y_6 =>
  match y_6 with
  | .inl y_6a =>
    some true
  | .inr y_6b =>
    some y_6b

noncomputable def spec_PlanSlots_l1 (slots : List Int) : ((List Request) × (List Int) × Int) → Option (((List Request) × (List Int) × Int) ⊕ (List Int))
  | (now, out, i) =>
    if (decide (i < (slots.length : Int))) then
      ck (ixOk i slots.length) <|
      (spec_l22Next now (slots.getD i.toNat default)).bind fun y_8 =>
      if (decide (0 ≤ y_8)) then
        ck (ixOk y_8 now.length) <|
        ck (appOk (out.length + ([y_8] : List Int).length) 8) <|
        some (.inl ((now.set y_8.toNat (Request.mk ((now.getD y_8.toNat default).Star) ((now.getD y_8.toNat default).From) ((now.getD y_8.toNat default).To) ((now.getD y_8.toNat default).Wanted) (IntKind.i64.wrap (((now.getD y_8.toNat default).Done) + 1)) ((now.getD y_8.toNat default).Priority))), (out ++ ([y_8] : List Int)), (IntKind.i64.wrap (i + 1))))
      else
        ck (appOk (out.length + ([y_8] : List Int).length) 8) <|
        some (.inl (now, (out ++ ([y_8] : List Int)), (IntKind.i64.wrap (i + 1))))
    else
      some (.inr out)

/-- spec.PlanSlots -/
noncomputable def spec_PlanSlots (list : List Request) (slots : List Int) : Option ((List Int) × Int) :=
  (spec_l22Ok list).bind fun y_1 =>
  if (!y_1) then
    some (([] : List Int), 1)
  else
    ck (!(!(decide (100 < (slots.length : Int)))) || (spec_l00Rises slots 0 10000000).isSome) <|
    if ((decide (100 < (slots.length : Int))) || (!((spec_l00Rises slots 0 10000000).getD default))) then
      some (([] : List Int), 2)
    else
      ck (appOk (([] : List Request).length + list.length) 56) <|
      (whileE (spec_PlanSlots_l1 slots) ((([] : List Request) ++ list), ([] : List Int), 0)).bind fun y_13 =>
      some (y_13, 0)

/-- spec.DrawAddRequest -/
noncomputable def spec_DrawAddRequest (code : List UInt8) : Option ((List Request) × Request) :=
  (spec_l00From code).bind fun y_1 =>
  (spec_l22Bent y_1).bind fun y_2 =>
  (spec_l22New y_2.2).bind fun y_3 =>
  (spec_l00Src_one y_3.2 6).bind fun y_4 =>
  if y_4.1 then
    (spec_l22Spoil y_4.2 y_3.1).bind fun y_6 =>
    some (y_2.1, y_6.2)
  else
    some (y_2.1, y_3.1)

/-- impl.AddRequest -/
noncomputable def impl_AddRequest (list : List Request) (x : Request) : Option ((List Request) × Int) :=
  (impl_ValidRequests list).bind fun y_1 =>
  if (!y_1) then
    some (([] : List Request), 1)
  else
    (impl_isRequest x).bind fun y_3 =>
    if (!y_3) then
      some (([] : List Request), 2)
    else
      if ((list.length : Int) == 30) then
        some (([] : List Request), 5)
      else
        (impl_copyOf_impl_Request list).bind fun y_6 =>
        ck (appOk (y_6.length + ([x] : List Request).length) 56) <|
        some ((y_6 ++ ([x] : List Request)), 0)

/-- spec.AddRequest -/
noncomputable def spec_AddRequest (list : List Request) (x : Request) : Option ((List Request) × Int) :=
  (spec_l22Ok list).bind fun y_1 =>
  if (!y_1) then
    some (([] : List Request), 1)
  else
    (spec_l22One x).bind fun y_3 =>
    if (!y_3) then
      some (([] : List Request), 2)
    else
      if (decide (30 ≤ (list.length : Int))) then
        some (([] : List Request), 5)
      else
        ck (appOk (([] : List Request).length + list.length) 56) <|
        ck (appOk ((([] : List Request) ++ list).length + ([x] : List Request).length) 56) <|
        some (((([] : List Request) ++ list) ++ ([x] : List Request)), 0)

/-- spec.DrawRequestText -/
noncomputable def spec_DrawRequestText (code : List UInt8) : Option Request :=
  (spec_l00From code).bind fun y_1 =>
  (spec_l22New y_1).bind fun y_2 =>
  (spec_l00Src_one y_2.2 6).bind fun y_3 =>
  if y_3.1 then
    (spec_l22Spoil y_3.2 y_2.1).bind fun y_5 =>
    some y_5.2
  else
    some y_2.1


/-- strconv.FormatInt -/
noncomputable def strconv_FormatInt (i : Int) (base : Int) : Option (List UInt8) :=
  (hFmt i base).bind fun y_1 =>
  some y_1

/-- impl.Decimal -/
noncomputable def impl_Decimal (n : Int) : Option (List UInt8) :=
  (strconv_FormatInt n 10).bind fun y_1 =>
  some y_1


/-- impl.RequestText -/
noncomputable def impl_RequestText (x : Request) : Option (List UInt8) :=
  (impl_isRequest x).bind fun y_1 =>
  if (!y_1) then
    some ([] : List UInt8)
  else
    (impl_Decimal x.From).bind fun y_3 =>
    ck (catOk y_3.length ([46, 46] : List UInt8).length) <|
    (impl_Decimal x.To).bind fun y_5 =>
    ck (catOk (y_3 ++ ([46, 46] : List UInt8)).length y_5.length) <|
    (impl_Decimal x.Done).bind fun y_7 =>
    ck (catOk y_7.length ([47] : List UInt8).length) <|
    (impl_Decimal x.Wanted).bind fun y_9 =>
    ck (catOk (y_7 ++ ([47] : List UInt8)).length y_9.length) <|
    (impl_Decimal x.Priority).bind fun y_11 =>
    (hJoin ([x.Star, ((y_3 ++ ([46, 46] : List UInt8)) ++ y_5), ((y_7 ++ ([47] : List UInt8)) ++ y_9), ([112, 114, 105, 111, 114, 105, 116, 121] : List UInt8), y_11] : List (List UInt8)) ([32] : List UInt8)).bind fun y_12 =>
    some y_12




/-- impl.readRange -/
noncomputable def impl_readRange (s_ : List UInt8) : Option (Int × Int × Bool) :=
  (hCut s_ ([46, 46] : List UInt8)).bind fun y_1 =>
  (hRdDec y_1.1).bind fun y_2 =>
  (hRdDec y_1.2.1).bind fun y_3 =>
  some (y_2.1, y_3.1, (y_2.2 && y_3.2))

/-- impl.ReadRequest -/
noncomputable def impl_ReadRequest (s_ : List UInt8) : Option (Request × Bool) :=
  (hSplit s_ ([32] : List UInt8)).bind fun y_1 =>
  if (!((y_1.length : Int) == 5)) then
    some ((Request.mk [] 0 0 0 0 0), false)
  else
    ck (ixOk 1 y_1.length) <|
    (impl_readRange (y_1.getD 1 default)).bind fun y_4 =>
    ck (ixOk 2 y_1.length) <|
    (hCut (y_1.getD 2 default) ([47] : List UInt8)).bind fun y_6 =>
    (hRdDec y_6.1).bind fun y_7 =>
    (hRdDec y_6.2.1).bind fun y_8 =>
    ck (ixOk 4 y_1.length) <|
    (hRdDec (y_1.getD 4 default)).bind fun y_10 =>
    ck (ixOk 0 y_1.length) <|
    ck (!(!((((!y_4.2.2) || (!y_7.2)) || (!y_8.2)) || (!y_10.2))) || (impl_RequestText (Request.mk (y_1.getD 0 default) y_4.1 y_4.2.1 y_8.1 y_7.1 y_10.1)).isSome) <|
    if (((((!y_4.2.2) || (!y_7.2)) || (!y_8.2)) || (!y_10.2)) || (!(((impl_RequestText (Request.mk (y_1.getD 0 default) y_4.1 y_4.2.1 y_8.1 y_7.1 y_10.1)).getD default) == s_))) then
      some ((Request.mk [] 0 0 0 0 0), false)
    else
      some ((Request.mk (y_1.getD 0 default) y_4.1 y_4.2.1 y_8.1 y_7.1 y_10.1), true)

noncomputable def spec_l01Dec_l1 (n : Int) : ((List UInt8) × Int) → Option (((List UInt8) × Int) ⊕ (List UInt8))
  | (out, k) =>
    if (!(k == 0)) then
      ck (nz 10) <|
      if (decide ((k.tmod 10) < 0)) then
        ck (appOk (([(toU8 (IntKind.u8.wrap (IntKind.i64.wrap (48 + (IntKind.i64.wrap (0 - (k.tmod 10)))))))] : List UInt8).length + out.length) 1) <|
        some (.inl ((([(toU8 (IntKind.u8.wrap (IntKind.i64.wrap (48 + (IntKind.i64.wrap (0 - (k.tmod 10)))))))] : List UInt8) ++ out), (IntKind.i64.wrap (k.tdiv 10))))
      else
        ck (appOk (([(toU8 (IntKind.u8.wrap (IntKind.i64.wrap (48 + (k.tmod 10)))))] : List UInt8).length + out.length) 1) <|
        some (.inl ((([(toU8 (IntKind.u8.wrap (IntKind.i64.wrap (48 + (k.tmod 10)))))] : List UInt8) ++ out), (IntKind.i64.wrap (k.tdiv 10))))
    else
      some (.inr out)

/-- spec.l01Dec -/
noncomputable def spec_l01Dec (n : Int) : Option (List UInt8) :=
  (whileE (spec_l01Dec_l1 n) (([] : List UInt8), n)).bind fun y_6 =>
  if ((y_6.length : Int) == 0) then
    some ([48] : List UInt8)
  else
    if (decide (n < 0)) then
      ck (catOk ([45] : List UInt8).length y_6.length) <|
      some (([45] : List UInt8) ++ y_6)
    else
      some y_6

/-- spec.l22Text -/
noncomputable def spec_l22Text (x : Request) : Option (List UInt8) :=
  ck (catOk x.Star.length ([32] : List UInt8).length) <|
  (spec_l01Dec x.From).bind fun y_2 =>
  ck (catOk (x.Star ++ ([32] : List UInt8)).length y_2.length) <|
  ck (catOk ((x.Star ++ ([32] : List UInt8)) ++ y_2).length ([46, 46] : List UInt8).length) <|
  (spec_l01Dec x.To).bind fun y_5 =>
  ck (catOk (((x.Star ++ ([32] : List UInt8)) ++ y_2) ++ ([46, 46] : List UInt8)).length y_5.length) <|
  ck (catOk ((((x.Star ++ ([32] : List UInt8)) ++ y_2) ++ ([46, 46] : List UInt8)) ++ y_5).length ([32] : List UInt8).length) <|
  (spec_l01Dec x.Done).bind fun y_8 =>
  ck (catOk (((((x.Star ++ ([32] : List UInt8)) ++ y_2) ++ ([46, 46] : List UInt8)) ++ y_5) ++ ([32] : List UInt8)).length y_8.length) <|
  ck (catOk ((((((x.Star ++ ([32] : List UInt8)) ++ y_2) ++ ([46, 46] : List UInt8)) ++ y_5) ++ ([32] : List UInt8)) ++ y_8).length ([47] : List UInt8).length) <|
  (spec_l01Dec x.Wanted).bind fun y_11 =>
  ck (catOk (((((((x.Star ++ ([32] : List UInt8)) ++ y_2) ++ ([46, 46] : List UInt8)) ++ y_5) ++ ([32] : List UInt8)) ++ y_8) ++ ([47] : List UInt8)).length y_11.length) <|
  ck (catOk ((((((((x.Star ++ ([32] : List UInt8)) ++ y_2) ++ ([46, 46] : List UInt8)) ++ y_5) ++ ([32] : List UInt8)) ++ y_8) ++ ([47] : List UInt8)) ++ y_11).length ([32, 112, 114, 105, 111, 114, 105, 116, 121, 32] : List UInt8).length) <|
  (spec_l01Dec x.Priority).bind fun y_14 =>
  ck (catOk (((((((((x.Star ++ ([32] : List UInt8)) ++ y_2) ++ ([46, 46] : List UInt8)) ++ y_5) ++ ([32] : List UInt8)) ++ y_8) ++ ([47] : List UInt8)) ++ y_11) ++ ([32, 112, 114, 105, 111, 114, 105, 116, 121, 32] : List UInt8)).length y_14.length) <|
  some ((((((((((x.Star ++ ([32] : List UInt8)) ++ y_2) ++ ([46, 46] : List UInt8)) ++ y_5) ++ ([32] : List UInt8)) ++ y_8) ++ ([47] : List UInt8)) ++ y_11) ++ ([32, 112, 114, 105, 111, 114, 105, 116, 121, 32] : List UInt8)) ++ y_14)

/-- spec.l01Spoil -/
noncomputable def spec_l01Spoil (s_ : L00Src) (t : List UInt8) : Option ((List UInt8) × L00Src) :=
  (spec_l00Src_pick s_ 5).bind fun y_1 =>
  if (y_1.1 == 0) then
    (spec_l00Src_pick y_1.2 (IntKind.i64.wrap ((t.length : Int) + 1))).bind fun y_3 =>
    ck (cutOk 0 y_3.1 t.length) <|
    (spec_l00Src_text y_3.2 ([([32] : List UInt8), ([48] : List UInt8), ([45] : List UInt8), ([120] : List UInt8), ([49] : List UInt8), ([57] : List UInt8), ([46] : List UInt8)] : List (List UInt8))).bind fun y_5 =>
    ck (catOk (cut t 0 y_3.1).length y_5.1.length) <|
    ck (cutOk y_3.1 (t.length : Int) t.length) <|
    ck (catOk ((cut t 0 y_3.1) ++ y_5.1).length (cut t y_3.1 (t.length : Int)).length) <|
    some ((((cut t 0 y_3.1) ++ y_5.1) ++ (cut t y_3.1 (t.length : Int))), y_5.2)
  else
    if (y_1.1 == 1) then
      if (!(t == ([] : List UInt8))) then
        (spec_l00Src_pick y_1.2 (t.length : Int)).bind fun y_11 =>
        ck (cutOk 0 y_11.1 t.length) <|
        ck (cutOk (IntKind.i64.wrap (y_11.1 + 1)) (t.length : Int) t.length) <|
        ck (catOk (cut t 0 y_11.1).length (cut t (IntKind.i64.wrap (y_11.1 + 1)) (t.length : Int)).length) <|
        some (((cut t 0 y_11.1) ++ (cut t (IntKind.i64.wrap (y_11.1 + 1)) (t.length : Int))), y_11.2)
      else
        some (t, y_1.2)
    else
      some (t, y_1.2)

/-- spec.DrawReadRequest -/
noncomputable def spec_DrawReadRequest (code : List UInt8) : Option (List UInt8) :=
  (spec_l00From code).bind fun y_1 =>
  (spec_l22New y_1).bind fun y_2 =>
  (spec_l22Text y_2.1).bind fun y_3 =>
  (spec_l00Src_one y_2.2 3).bind fun y_4 =>
  if y_4.1 then
    (spec_l01Spoil y_4.2 y_3).bind fun y_6 =>
    some y_6.1
  else
    some y_3

noncomputable def spec_l01Split_l1 (s_ : List UInt8) (by_ : UInt8) : ((List (List UInt8)) × Int × Int) → Option (((List (List UInt8)) × Int × Int) ⊕ ((List (List UInt8)) × Int))
  | (out, from_, i) =>
    if (decide (i < (s_.length : Int))) then
      ck (ixOk i s_.length) <|
      if (((s_.getD i.toNat 0).toNat : Int) == (by_.toNat : Int)) then
        ck (cutOk from_ i s_.length) <|
        ck (appOk (out.length + ([(cut s_ from_ i)] : List (List UInt8)).length) 16) <|
        some (.inl ((out ++ ([(cut s_ from_ i)] : List (List UInt8))), (IntKind.i64.wrap (i + 1)), (IntKind.i64.wrap (i + 1))))
      else
        some (.inl (out, from_, (IntKind.i64.wrap (i + 1))))
    else
      some (.inr (out, from_))

/-- spec.l01Split -/
noncomputable def spec_l01Split (s_ : List UInt8) (by_ : UInt8) : Option (List (List UInt8)) :=
  (whileE (spec_l01Split_l1 s_ by_) (([] : List (List UInt8)), 0, 0)).bind fun y_6 =>
  ck (cutOk y_6.2 (s_.length : Int) s_.length) <|
  ck (appOk (y_6.1.length + ([(cut s_ y_6.2 (s_.length : Int))] : List (List UInt8)).length) 16) <|
  some (y_6.1 ++ ([(cut s_ y_6.2 (s_.length : Int))] : List (List UInt8)))

noncomputable def spec_l01Number_l1 (s_ : List UInt8) (t : List UInt8) : (Int × Int) → Option ((Int × Int) ⊕ (Int ⊕ (Int × Bool)))
  | (n, i) =>
    if (decide (i < (t.length : Int))) then
      ck (ixOk i t.length) <|
      (spec_l01Digit (t.getD i.toNat 0)).bind fun y_7 =>
      if (!y_7) then
        some (.inr (.inr (0, false)))
      else
        some (.inl ((IntKind.i64.wrap ((IntKind.i64.wrap (10 * n)) + (IntKind.i64.wrap (IntKind.u8.wrap (((t.getD i.toNat 0).toNat : Int) - 48))))), (IntKind.i64.wrap (i + 1))))
    else
      some (.inr (.inl n))

noncomputable def spec_l01Number_l2 (s_ : List UInt8) (t : List UInt8) : (Int × Int) → Option ((Int × Int) ⊕ (Int ⊕ (Int × Bool)))
  | (n, i) =>
    if (decide (i < (t.length : Int))) then
      ck (ixOk i t.length) <|
      (spec_l01Digit (t.getD i.toNat 0)).bind fun y_18 =>
      if (!y_18) then
        some (.inr (.inr (0, false)))
      else
        some (.inl ((IntKind.i64.wrap ((IntKind.i64.wrap (10 * n)) + (IntKind.i64.wrap (IntKind.u8.wrap (((t.getD i.toNat 0).toNat : Int) - 48))))), (IntKind.i64.wrap (i + 1))))
    else
      some (.inr (.inl n))

/-- spec.l01Number -/
noncomputable def spec_l01Number (s_ : List UInt8) : Option (Int × Bool) :=
  ck (!(!(s_ == ([] : List UInt8))) || ixOk 0 s_.length) <|
  if ((!(s_ == ([] : List UInt8))) && (((s_.getD 0 0).toNat : Int) == 45)) then
    ck (cutOk 1 (s_.length : Int) s_.length) <|
    if ((decide (((cut s_ 1 (s_.length : Int)).length : Int) < 1)) || (decide (18 < ((cut s_ 1 (s_.length : Int)).length : Int)))) then
      some (0, false)
    else
      (whileE (spec_l01Number_l1 s_ (cut s_ 1 (s_.length : Int))) (0, 0)).bind fun y_9 =>
      match y_9 with
      | .inl y_9a =>
        if (decide (((cut s_ 1 (s_.length : Int)).length : Int) < (s_.length : Int))) then
          (spec_l01Dec (IntKind.i64.wrap (0 - y_9a))).bind fun y_11 =>
          if (!(y_11 == s_)) then
            some (0, false)
          else
            some ((IntKind.i64.wrap (0 - y_9a)), true)
        else
          (spec_l01Dec y_9a).bind fun y_13 =>
          if (!(y_13 == s_)) then
            some (0, false)
          else
            some (y_9a, true)
      | .inr y_9b =>
        some (y_9b.1, y_9b.2)
  else
    if ((decide ((s_.length : Int) < 1)) || (decide (18 < (s_.length : Int)))) then
      some (0, false)
    else
      (whileE (spec_l01Number_l2 s_ s_) (0, 0)).bind fun y_20 =>
      match y_20 with
      | .inl y_20a =>
        if (decide ((s_.length : Int) < (s_.length : Int))) then
          (spec_l01Dec (IntKind.i64.wrap (0 - y_20a))).bind fun y_22 =>
          if (!(y_22 == s_)) then
            some (0, false)
          else
            some ((IntKind.i64.wrap (0 - y_20a)), true)
        else
          (spec_l01Dec y_20a).bind fun y_24 =>
          if (!(y_24 == s_)) then
            some (0, false)
          else
            some (y_20a, true)
      | .inr y_20b =>
        some (y_20b.1, y_20b.2)

/-- spec.l18Range -/
noncomputable def spec_l18Range (s_ : List UInt8) : Option (Int × Int × Bool) :=
  (spec_l01Split s_ (46 : UInt8)).bind fun y_1 =>
  ck (!(!(!((y_1.length : Int) == 3))) || ixOk 1 y_1.length) <|
  if ((!((y_1.length : Int) == 3)) || (!((y_1.getD 1 default) == ([] : List UInt8)))) then
    some (0, 0, false)
  else
    ck (ixOk 0 y_1.length) <|
    (spec_l01Number (y_1.getD 0 default)).bind fun y_5 =>
    ck (ixOk 2 y_1.length) <|
    (spec_l01Number (y_1.getD 2 default)).bind fun y_7 =>
    some (y_5.1, y_7.1, (y_5.2 && y_7.2))

/-- spec.ReadRequest -/
noncomputable def spec_ReadRequest (s_ : List UInt8) : Option (Request × Bool) :=
  (spec_l01Split s_ (32 : UInt8)).bind fun y_1 =>
  ck (!(!(!((y_1.length : Int) == 5))) || ixOk 3 y_1.length) <|
  if ((!((y_1.length : Int) == 5)) || (!((y_1.getD 3 default) == ([112, 114, 105, 111, 114, 105, 116, 121] : List UInt8)))) then
    some ((Request.mk [] 0 0 0 0 0), false)
  else
    ck (ixOk 1 y_1.length) <|
    (spec_l18Range (y_1.getD 1 default)).bind fun y_5 =>
    ck (ixOk 2 y_1.length) <|
    (spec_l01Split (y_1.getD 2 default) (47 : UInt8)).bind fun y_7 =>
    if ((!y_5.2.2) || (!((y_7.length : Int) == 2))) then
      some ((Request.mk [] 0 0 0 0 0), false)
    else
      ck (ixOk 0 y_7.length) <|
      (spec_l01Number (y_7.getD 0 default)).bind fun y_10 =>
      ck (ixOk 1 y_7.length) <|
      (spec_l01Number (y_7.getD 1 default)).bind fun y_12 =>
      ck (ixOk 4 y_1.length) <|
      (spec_l01Number (y_1.getD 4 default)).bind fun y_14 =>
      ck (ixOk 0 y_1.length) <|
      ck (!(!(((!y_10.2) || (!y_12.2)) || (!y_14.2))) || (spec_l22One (Request.mk (y_1.getD 0 default) y_5.1 y_5.2.1 y_12.1 y_10.1 y_14.1)).isSome) <|
      if ((((!y_10.2) || (!y_12.2)) || (!y_14.2)) || (!((spec_l22One (Request.mk (y_1.getD 0 default) y_5.1 y_5.2.1 y_12.1 y_10.1 y_14.1)).getD default))) then
        some ((Request.mk [] 0 0 0 0 0), false)
      else
        some ((Request.mk (y_1.getD 0 default) y_5.1 y_5.2.1 y_12.1 y_10.1 y_14.1), true)

/-- spec.DrawSameRequests -/
noncomputable def spec_DrawSameRequests (code : List UInt8) : Option ((List Request) × (List Request)) :=
  (spec_l00From code).bind fun y_1 =>
  (spec_l22Bent y_1).bind fun y_2 =>
  ck (appOk (([] : List Request).length + y_2.1.length) 56) <|
  if (decide (0 < ((([] : List Request) ++ y_2.1).length : Int))) then
    (spec_l00Src_one y_2.2 2).bind fun y_5 =>
    if ((decide (0 < ((([] : List Request) ++ y_2.1).length : Int))) && y_5.1) then
      ck (ixOk 0 ((([] : List Request) ++ y_2.1).length)) <|
      (spec_l00Src_pick y_5.2 2).bind fun y_8 =>
      (spec_l00Src_one y_8.2 5).bind fun y_9 =>
      if y_9.1 then
        ck (appOk (((([] : List Request) ++ y_2.1).set 0 (Request.mk (((([] : List Request) ++ y_2.1).getD 0 default).Star) (((([] : List Request) ++ y_2.1).getD 0 default).From) (((([] : List Request) ++ y_2.1).getD 0 default).To) (((([] : List Request) ++ y_2.1).getD 0 default).Wanted) (IntKind.i64.wrap ((((([] : List Request) ++ y_2.1).getD 0 default).Done) + y_8.1)) (((([] : List Request) ++ y_2.1).getD 0 default).Priority))).length + ([(Request.mk [] 0 0 0 0 0)] : List Request).length) 56) <|
        some (y_2.1, (((([] : List Request) ++ y_2.1).set 0 (Request.mk (((([] : List Request) ++ y_2.1).getD 0 default).Star) (((([] : List Request) ++ y_2.1).getD 0 default).From) (((([] : List Request) ++ y_2.1).getD 0 default).To) (((([] : List Request) ++ y_2.1).getD 0 default).Wanted) (IntKind.i64.wrap ((((([] : List Request) ++ y_2.1).getD 0 default).Done) + y_8.1)) (((([] : List Request) ++ y_2.1).getD 0 default).Priority))) ++ ([(Request.mk [] 0 0 0 0 0)] : List Request)))
      else
        some (y_2.1, ((([] : List Request) ++ y_2.1).set 0 (Request.mk (((([] : List Request) ++ y_2.1).getD 0 default).Star) (((([] : List Request) ++ y_2.1).getD 0 default).From) (((([] : List Request) ++ y_2.1).getD 0 default).To) (((([] : List Request) ++ y_2.1).getD 0 default).Wanted) (IntKind.i64.wrap ((((([] : List Request) ++ y_2.1).getD 0 default).Done) + y_8.1)) (((([] : List Request) ++ y_2.1).getD 0 default).Priority))))
    else
      (spec_l00Src_one y_5.2 5).bind fun y_12 =>
      if y_12.1 then
        ck (appOk ((([] : List Request) ++ y_2.1).length + ([(Request.mk [] 0 0 0 0 0)] : List Request).length) 56) <|
        some (y_2.1, ((([] : List Request) ++ y_2.1) ++ ([(Request.mk [] 0 0 0 0 0)] : List Request)))
      else
        some (y_2.1, (([] : List Request) ++ y_2.1))
  else
    (spec_l00Src_one y_2.2 5).bind fun y_15 =>
    if y_15.1 then
      ck (appOk ((([] : List Request) ++ y_2.1).length + ([(Request.mk [] 0 0 0 0 0)] : List Request).length) 56) <|
      some (y_2.1, ((([] : List Request) ++ y_2.1) ++ ([(Request.mk [] 0 0 0 0 0)] : List Request)))
    else
      some (y_2.1, (([] : List Request) ++ y_2.1))

noncomputable def laws_f6ints_l1 (a : List Int) (b : List Int) : Int → Option (Int ⊕ (Unit ⊕ Bool))
  | i =>
    if (decide (i < (a.length : Int))) then
      ck (ixOk i a.length) <|
      ck (ixOk i b.length) <|
      if (!((a.getD i.toNat default) == (b.getD i.toNat default))) then
        some (.inr (.inr false))
      else
        some (.inl (IntKind.i64.wrap (i + 1)))
    else
      some (.inr (.inl ()))

/-- laws.f6ints -/
noncomputable def laws_f6ints (a : List Int) (b : List Int) : Option Bool :=
  if (!((a.length : Int) == (b.length : Int))) then
    some false
  else
    (whileE (laws_f6ints_l1 a b) 0).bind fun y_6 =>
    match y_6 with
    | .inl y_6a =>
      some true
    | .inr y_6b =>
      some y_6b

noncomputable def spec_SameRequests_l1 (a : List Request) (b : List Request) : Int → Option (Int ⊕ (Unit ⊕ Bool))
  | i =>
    if (decide (i < (a.length : Int))) then
      ck (ixOk i a.length) <|
      ck (ixOk i b.length) <|
      if (!((((a.getD i.toNat default).Star) == ((b.getD i.toNat default).Star)) && ((((a.getD i.toNat default).From) == ((b.getD i.toNat default).From)) && ((((a.getD i.toNat default).To) == ((b.getD i.toNat default).To)) && ((((a.getD i.toNat default).Wanted) == ((b.getD i.toNat default).Wanted)) && ((((a.getD i.toNat default).Done) == ((b.getD i.toNat default).Done)) && (((a.getD i.toNat default).Priority) == ((b.getD i.toNat default).Priority)))))))) then
        some (.inr (.inr false))
      else
        some (.inl (IntKind.i64.wrap (i + 1)))
    else
      some (.inr (.inl ()))

/-- spec.SameRequests -/
noncomputable def spec_SameRequests (a : List Request) (b : List Request) : Option Bool :=
  if (!((a.length : Int) == (b.length : Int))) then
    some false
  else
    (whileE (spec_SameRequests_l1 a b) 0).bind fun y_6 =>
    match y_6 with
    | .inl y_6a =>
      some true
    | .inr y_6b =>
      some y_6b

/-- spec.RequestText -/
noncomputable def spec_RequestText (x : Request) : Option (List UInt8) :=
  (spec_l22One x).bind fun y_1 =>
  if (!y_1) then
    some ([] : List UInt8)
  else
    (spec_l22Text x).bind fun y_3 =>
    some y_3

noncomputable def slices_Equal_impl_Request_impl_Request_l1 (s1 : List Request) (s2 : List Request) (t12 : Int) : Int → Option (Int ⊕ (Unit ⊕ Bool))
  | t13 =>
    if (decide (t13 < t12)) then
      ck (ixOk t13 s1.length) <|
      ck (ixOk t13 s2.length) <|
      if (!((((s1.getD t13.toNat default).Star) == ((s2.getD t13.toNat default).Star)) && ((((s1.getD t13.toNat default).From) == ((s2.getD t13.toNat default).From)) && ((((s1.getD t13.toNat default).To) == ((s2.getD t13.toNat default).To)) && ((((s1.getD t13.toNat default).Wanted) == ((s2.getD t13.toNat default).Wanted)) && ((((s1.getD t13.toNat default).Done) == ((s2.getD t13.toNat default).Done)) && (((s1.getD t13.toNat default).Priority) == ((s2.getD t13.toNat default).Priority)))))))) then
        some (.inr (.inr false))
      else
        some (.inl (IntKind.i64.wrap (t13 + 1)))
    else
      some (.inr (.inl ()))

/-- slices.Equal[[]impl.Request,impl.Request] -/
noncomputable def slices_Equal_impl_Request_impl_Request (s1 : List Request) (s2 : List Request) : Option Bool :=
  if (!((s1.length : Int) == (s2.length : Int))) then
    some false
  else
    (whileE (slices_Equal_impl_Request_impl_Request_l1 s1 s2 (s1.length : Int)) 0).bind fun y_6 =>
    match y_6 with
    | .inl y_6a =>
      some true
    | .inr y_6b =>
      some y_6b

/-- impl.SameRequests -/
noncomputable def impl_SameRequests (a : List Request) (b : List Request) : Option Bool :=
  (slices_Equal_impl_Request_impl_Request a b).bind fun y_1 =>
  some y_1

/-- spec.ValidRequests -/
noncomputable def spec_ValidRequests (list : List Request) : Option Bool :=
  (spec_l22Ok list).bind fun y_1 =>
  some y_1

noncomputable def laws_FnQueue_l1 (list : List Request) (k : Int) (bad : Int) (model : Int) (one : Int) (some_ : List Int) (a : List Request) (slots : List Int) (right_ : List Int) : ((List Int) × Int) → Option (((List Int) × Int) ⊕ (Unit ⊕ Bool))
  | (counts, i) =>
    if (decide (i < (right_.length : Int))) then
      ck (ixOk i right_.length) <|
      if (decide ((right_.getD i.toNat default) < 0)) then
        some (.inl (counts, (IntKind.i64.wrap (i + 1))))
      else
        ck (ixOk (right_.getD i.toNat default) a.length) <|
        ck (ixOk (right_.getD i.toNat default) counts.length) <|
        ck (ixOk i slots.length) <|
        if (((decide ((slots.getD i.toNat default) < ((a.getD (right_.getD i.toNat default).toNat default).From))) || (decide (((a.getD (right_.getD i.toNat default).toNat default).To) < (slots.getD i.toNat default)))) || (decide (((a.getD (right_.getD i.toNat default).toNat default).Wanted) < (IntKind.i64.wrap (((a.getD (right_.getD i.toNat default).toNat default).Done) + (IntKind.i64.wrap ((counts.getD (right_.getD i.toNat default).toNat default) + 1))))))) then
          some (.inr (.inr false))
        else
          some (.inl ((counts.set ((right_.getD i.toNat default).toNat) (IntKind.i64.wrap ((counts.getD (right_.getD i.toNat default).toNat default) + 1))), (IntKind.i64.wrap (i + 1))))
    else
      some (.inr (.inl ()))

noncomputable def laws_FnQueue_l2 (list : List Request) (k : Int) (model : Int) (some_ : List Int) : (Bool × Int) → Option ((Bool × Int) ⊕ (Bool ⊕ Bool))
  | (found, i) =>
    if (decide (i < (some_.length : Int))) then
      ck (!(!found) || ixOk i some_.length) <|
      ck (ixOk i some_.length) <|
      ck (ixOk (some_.getD i.toNat default) list.length) <|
      ck (ixOk model list.length) <|
      if (decide (((list.getD model.toNat default).Priority) < ((list.getD (some_.getD i.toNat default).toNat default).Priority))) then
        some (.inr (.inr false))
      else
        some (.inl ((found || ((some_.getD i.toNat default) == k)), (IntKind.i64.wrap (i + 1))))
    else
      some (.inr (.inl found))

noncomputable def laws_FnQueue_l3 (list : List Request) (k : Int) (model : Int) (some_ : List Int) : (Bool × Int) → Option ((Bool × Int) ⊕ (Bool ⊕ Bool))
  | (found, i) =>
    if (decide (i < (some_.length : Int))) then
      ck (!(!found) || ixOk i some_.length) <|
      ck (ixOk i some_.length) <|
      ck (ixOk (some_.getD i.toNat default) list.length) <|
      ck (ixOk model list.length) <|
      if (decide (((list.getD model.toNat default).Priority) < ((list.getD (some_.getD i.toNat default).toNat default).Priority))) then
        some (.inr (.inr false))
      else
        some (.inl ((found || ((some_.getD i.toNat default) == k)), (IntKind.i64.wrap (i + 1))))
    else
      some (.inr (.inl found))

/-- laws.FnQueue -/
noncomputable def laws_FnQueue (code : List UInt8) : Option Bool :=
  (laws_f6big code).bind fun y_1 =>
  if y_1 then
    some true
  else
    (spec_DrawNextRequest code).bind fun y_3 =>
    (impl_NextRequest y_3.1 y_3.2).bind fun y_4 =>
    (spec_NextRequest y_3.1 y_3.2).bind fun y_5 =>
    (impl_OpenRequests y_3.1 y_3.2).bind fun y_6 =>
    (spec_OpenRequests y_3.1 y_3.2).bind fun y_7 =>
    (spec_DrawPlanSlots code).bind fun y_8 =>
    (impl_PlanSlots y_8.1 y_8.2).bind fun y_9 =>
    (spec_PlanSlots y_8.1 y_8.2).bind fun y_10 =>
    (spec_DrawAddRequest code).bind fun y_11 =>
    (impl_AddRequest y_11.1 y_11.2).bind fun y_12 =>
    (spec_AddRequest y_11.1 y_11.2).bind fun y_13 =>
    (spec_DrawRequestText code).bind fun y_14 =>
    (impl_RequestText y_14).bind fun y_15 =>
    (impl_ReadRequest y_15).bind fun y_16 =>
    (spec_DrawReadRequest code).bind fun y_17 =>
    (impl_ReadRequest y_17).bind fun y_18 =>
    (spec_ReadRequest y_17).bind fun y_19 =>
    (spec_DrawSameRequests code).bind fun y_20 =>
    ck (!(!(((!(y_4.2 == y_5.2)) || (!(y_4.1 == y_5.1))) || (!(y_6.2 == y_7.2)))) || (laws_f6ints y_6.1 y_7.1).isSome) <|
    ck (!(!(((((!(y_4.2 == y_5.2)) || (!(y_4.1 == y_5.1))) || (!(y_6.2 == y_7.2))) || (!((laws_f6ints y_6.1 y_7.1).getD default))) || (!(y_9.2 == y_10.2)))) || (laws_f6ints y_9.1 y_10.1).isSome) <|
    ck (!(!(((((((!(y_4.2 == y_5.2)) || (!(y_4.1 == y_5.1))) || (!(y_6.2 == y_7.2))) || (!((laws_f6ints y_6.1 y_7.1).getD default))) || (!(y_9.2 == y_10.2))) || (!((laws_f6ints y_9.1 y_10.1).getD default))) || (!(y_12.2 == y_13.2)))) || (spec_SameRequests y_12.1 y_13.1).isSome) <|
    ck (!(!((((((((!(y_4.2 == y_5.2)) || (!(y_4.1 == y_5.1))) || (!(y_6.2 == y_7.2))) || (!((laws_f6ints y_6.1 y_7.1).getD default))) || (!(y_9.2 == y_10.2))) || (!((laws_f6ints y_9.1 y_10.1).getD default))) || (!(y_12.2 == y_13.2))) || (!((spec_SameRequests y_12.1 y_13.1).getD default)))) || (spec_RequestText y_14).isSome) <|
    ck (!(!(((((((((((((!(y_4.2 == y_5.2)) || (!(y_4.1 == y_5.1))) || (!(y_6.2 == y_7.2))) || (!((laws_f6ints y_6.1 y_7.1).getD default))) || (!(y_9.2 == y_10.2))) || (!((laws_f6ints y_9.1 y_10.1).getD default))) || (!(y_12.2 == y_13.2))) || (!((spec_SameRequests y_12.1 y_13.1).getD default))) || (!(y_15 == ((spec_RequestText y_14).getD default)))) || (!(y_16.2 == (!(y_15 == ([] : List UInt8)))))) || (y_16.2 && (!((y_16.1.Star == y_14.Star) && ((y_16.1.From == y_14.From) && ((y_16.1.To == y_14.To) && ((y_16.1.Wanted == y_14.Wanted) && ((y_16.1.Done == y_14.Done) && (y_16.1.Priority == y_14.Priority))))))))) || (!(y_18.2 == y_19.2))) || (!((y_18.1.Star == y_19.1.Star) && ((y_18.1.From == y_19.1.From) && ((y_18.1.To == y_19.1.To) && ((y_18.1.Wanted == y_19.1.Wanted) && ((y_18.1.Done == y_19.1.Done) && (y_18.1.Priority == y_19.1.Priority))))))))) || (impl_SameRequests y_20.1 y_20.2).isSome) <|
    ck (!(!(((((((((((((!(y_4.2 == y_5.2)) || (!(y_4.1 == y_5.1))) || (!(y_6.2 == y_7.2))) || (!((laws_f6ints y_6.1 y_7.1).getD default))) || (!(y_9.2 == y_10.2))) || (!((laws_f6ints y_9.1 y_10.1).getD default))) || (!(y_12.2 == y_13.2))) || (!((spec_SameRequests y_12.1 y_13.1).getD default))) || (!(y_15 == ((spec_RequestText y_14).getD default)))) || (!(y_16.2 == (!(y_15 == ([] : List UInt8)))))) || (y_16.2 && (!((y_16.1.Star == y_14.Star) && ((y_16.1.From == y_14.From) && ((y_16.1.To == y_14.To) && ((y_16.1.Wanted == y_14.Wanted) && ((y_16.1.Done == y_14.Done) && (y_16.1.Priority == y_14.Priority))))))))) || (!(y_18.2 == y_19.2))) || (!((y_18.1.Star == y_19.1.Star) && ((y_18.1.From == y_19.1.From) && ((y_18.1.To == y_19.1.To) && ((y_18.1.Wanted == y_19.1.Wanted) && ((y_18.1.Done == y_19.1.Done) && (y_18.1.Priority == y_19.1.Priority))))))))) || (spec_SameRequests y_20.1 y_20.2).isSome) <|
    ck (!(!((((((((((((((!(y_4.2 == y_5.2)) || (!(y_4.1 == y_5.1))) || (!(y_6.2 == y_7.2))) || (!((laws_f6ints y_6.1 y_7.1).getD default))) || (!(y_9.2 == y_10.2))) || (!((laws_f6ints y_9.1 y_10.1).getD default))) || (!(y_12.2 == y_13.2))) || (!((spec_SameRequests y_12.1 y_13.1).getD default))) || (!(y_15 == ((spec_RequestText y_14).getD default)))) || (!(y_16.2 == (!(y_15 == ([] : List UInt8)))))) || (y_16.2 && (!((y_16.1.Star == y_14.Star) && ((y_16.1.From == y_14.From) && ((y_16.1.To == y_14.To) && ((y_16.1.Wanted == y_14.Wanted) && ((y_16.1.Done == y_14.Done) && (y_16.1.Priority == y_14.Priority))))))))) || (!(y_18.2 == y_19.2))) || (!((y_18.1.Star == y_19.1.Star) && ((y_18.1.From == y_19.1.From) && ((y_18.1.To == y_19.1.To) && ((y_18.1.Wanted == y_19.1.Wanted) && ((y_18.1.Done == y_19.1.Done) && (y_18.1.Priority == y_19.1.Priority)))))))) || (!(((impl_SameRequests y_20.1 y_20.2).getD default) == ((spec_SameRequests y_20.1 y_20.2).getD default))))) || (impl_ValidRequests y_3.1).isSome) <|
    ck (!(!((((((((((((((!(y_4.2 == y_5.2)) || (!(y_4.1 == y_5.1))) || (!(y_6.2 == y_7.2))) || (!((laws_f6ints y_6.1 y_7.1).getD default))) || (!(y_9.2 == y_10.2))) || (!((laws_f6ints y_9.1 y_10.1).getD default))) || (!(y_12.2 == y_13.2))) || (!((spec_SameRequests y_12.1 y_13.1).getD default))) || (!(y_15 == ((spec_RequestText y_14).getD default)))) || (!(y_16.2 == (!(y_15 == ([] : List UInt8)))))) || (y_16.2 && (!((y_16.1.Star == y_14.Star) && ((y_16.1.From == y_14.From) && ((y_16.1.To == y_14.To) && ((y_16.1.Wanted == y_14.Wanted) && ((y_16.1.Done == y_14.Done) && (y_16.1.Priority == y_14.Priority))))))))) || (!(y_18.2 == y_19.2))) || (!((y_18.1.Star == y_19.1.Star) && ((y_18.1.From == y_19.1.From) && ((y_18.1.To == y_19.1.To) && ((y_18.1.Wanted == y_19.1.Wanted) && ((y_18.1.Done == y_19.1.Done) && (y_18.1.Priority == y_19.1.Priority)))))))) || (!(((impl_SameRequests y_20.1 y_20.2).getD default) == ((spec_SameRequests y_20.1 y_20.2).getD default))))) || (spec_ValidRequests y_3.1).isSome) <|
    if (((((((((((((((!(y_4.2 == y_5.2)) || (!(y_4.1 == y_5.1))) || (!(y_6.2 == y_7.2))) || (!((laws_f6ints y_6.1 y_7.1).getD default))) || (!(y_9.2 == y_10.2))) || (!((laws_f6ints y_9.1 y_10.1).getD default))) || (!(y_12.2 == y_13.2))) || (!((spec_SameRequests y_12.1 y_13.1).getD default))) || (!(y_15 == ((spec_RequestText y_14).getD default)))) || (!(y_16.2 == (!(y_15 == ([] : List UInt8)))))) || (y_16.2 && (!((y_16.1.Star == y_14.Star) && ((y_16.1.From == y_14.From) && ((y_16.1.To == y_14.To) && ((y_16.1.Wanted == y_14.Wanted) && ((y_16.1.Done == y_14.Done) && (y_16.1.Priority == y_14.Priority))))))))) || (!(y_18.2 == y_19.2))) || (!((y_18.1.Star == y_19.1.Star) && ((y_18.1.From == y_19.1.From) && ((y_18.1.To == y_19.1.To) && ((y_18.1.Wanted == y_19.1.Wanted) && ((y_18.1.Done == y_19.1.Done) && (y_18.1.Priority == y_19.1.Priority)))))))) || (!(((impl_SameRequests y_20.1 y_20.2).getD default) == ((spec_SameRequests y_20.1 y_20.2).getD default)))) || (!(((impl_ValidRequests y_3.1).getD default) == ((spec_ValidRequests y_3.1).getD default)))) then
      some false
    else
      if (y_9.2 == 0) then
        ck (mkOk (y_8.1.length : Int) 8) <|
        (whileE (laws_FnQueue_l1 y_3.1 y_4.1 y_4.2 y_5.1 y_6.2 y_7.1 y_8.1 y_8.2 y_10.1) ((List.replicate (y_8.1.length : Int).toNat (0 : Int)), 0)).bind fun y_39 =>
        match y_39 with
        | .inl y_39a =>
          if (!(y_6.2 == 0)) then
            some true
          else
            if (!(y_4.2 == 0)) then
              some ((y_7.1.length : Int) == 0)
            else
              (whileE (laws_FnQueue_l2 y_3.1 y_4.1 y_5.1 y_7.1) (false, 0)).bind fun y_48 =>
              match y_48 with
              | .inl y_48a =>
                some y_48a
              | .inr y_48b =>
                some y_48b
        | .inr y_39b =>
          some y_39b
      else
        if (!(y_6.2 == 0)) then
          some true
        else
          if (!(y_4.2 == 0)) then
            some ((y_7.1.length : Int) == 0)
          else
            (whileE (laws_FnQueue_l3 y_3.1 y_4.1 y_5.1 y_7.1) (false, 0)).bind fun y_57 =>
            match y_57 with
            | .inl y_57a =>
              some y_57a
            | .inr y_57b =>
              some y_57b

end Go.Proofs.YtibabbjpkjmdeaaGreatDoor
