/- Typed forms of the functions that SA reaches. No condition. -/
import Derived.Test.YtpjpfdoaemoddaaEngTA
namespace Go.Proofs.Ytpjpfdoaemoddaa
open Go Go.RowKit
set_option linter.unusedVariables false

structure L00Src where
  code_ : List UInt8
  at_ : Int
  seed_ : Int
  deriving Inhabited, DecidableEq
def L00Src_av (x : L00Src) : AV := .agg ([.sl 1 (List.map byteAV x.code_), .int .i64 x.at_, .int .u64 x.seed_])

structure Fault where
  Index : Int
  Kind : Int
  deriving Inhabited, DecidableEq
def Fault_av (x : Fault) : AV := .agg ([.int .i64 x.Index, .int .i64 x.Kind])

attribute [go_sem] L00Src_av Fault_av

/-- laws.f6big -/
noncomputable def laws_f6big (code : List UInt8) : Option Bool :=
  some (decide (4096 < (code.length : Int)))

/-- spec.l00From -/
noncomputable def spec_l00From (code : List UInt8) : Option L00Src :=
  some (L00Src.mk code 0 0)

/-- (*spec.l00Src).next -/
noncomputable def spec_l00Src_next (s_ : L00Src) : Option (Int × L00Src) :=
  if (decide (s_.at_ < (s_.code_.length : Int))) then
    ck (ixOk s_.at_ s_.code_.length) <|
    if (decide ((IntKind.i64.wrap (s_.at_ + 1)) ≤ (s_.code_.length : Int))) then
      some (((s_.code_.getD s_.at_.toNat default).toNat : Int), (L00Src.mk s_.code_ (IntKind.i64.wrap (s_.at_ + 1)) (IntKind.u64.wrap ((IntKind.u64.wrap ((IntKind.u64.wrap (s_.seed_ * 6364136223846793005)) + (IntKind.u64.wrap ((s_.code_.getD s_.at_.toNat default).toNat : Int)))) + 1442695040888963407))))
    else
      ck (shOk 40) <|
      some ((IntKind.i64.wrap (IntKind.u64.wrap (BitVec.ofInt (IntKind.bits .u64) ((IntKind.u64.wrap ((IntKind.u64.wrap ((IntKind.u64.wrap (s_.seed_ * 6364136223846793005)) + (IntKind.u64.wrap ((s_.code_.getD s_.at_.toNat default).toNat : Int)))) + 1442695040888963407)).fdiv (2 ^ (min 40 64))) &&& BitVec.ofInt (IntKind.bits .u64) 255).toNat)), (L00Src.mk s_.code_ (IntKind.i64.wrap (s_.at_ + 1)) (IntKind.u64.wrap ((IntKind.u64.wrap ((IntKind.u64.wrap (s_.seed_ * 6364136223846793005)) + (IntKind.u64.wrap ((s_.code_.getD s_.at_.toNat default).toNat : Int)))) + 1442695040888963407))))
  else
    if (decide ((IntKind.i64.wrap (s_.at_ + 1)) ≤ (s_.code_.length : Int))) then
      some (0, (L00Src.mk s_.code_ (IntKind.i64.wrap (s_.at_ + 1)) (IntKind.u64.wrap ((IntKind.u64.wrap ((IntKind.u64.wrap (s_.seed_ * 6364136223846793005)) + (IntKind.u64.wrap 0))) + 1442695040888963407))))
    else
      ck (shOk 40) <|
      some ((IntKind.i64.wrap (IntKind.u64.wrap (BitVec.ofInt (IntKind.bits .u64) ((IntKind.u64.wrap ((IntKind.u64.wrap ((IntKind.u64.wrap (s_.seed_ * 6364136223846793005)) + (IntKind.u64.wrap 0))) + 1442695040888963407)).fdiv (2 ^ (min 40 64))) &&& BitVec.ofInt (IntKind.bits .u64) 255).toNat)), (L00Src.mk s_.code_ (IntKind.i64.wrap (s_.at_ + 1)) (IntKind.u64.wrap ((IntKind.u64.wrap ((IntKind.u64.wrap (s_.seed_ * 6364136223846793005)) + (IntKind.u64.wrap 0))) + 1442695040888963407))))

/-- (*spec.l00Src).pick -/
noncomputable def spec_l00Src_pick (s_ : L00Src) (n : Int) : Option (Int × L00Src) :=
  if (decide (n ≤ 1)) then
    some (0, s_)
  else
    (spec_l00Src_next s_).bind fun y_2 =>
    if (decide (200 < n)) then
      (spec_l00Src_next y_2.2).bind fun y_4 =>
      ck (nz n) <|
      some (((IntKind.i64.wrap ((IntKind.i64.wrap (y_2.1 * 256)) + y_4.1)).tmod n), y_4.2)
    else
      ck (nz n) <|
      some ((y_2.1.tmod n), y_2.2)

/-- (*spec.l00Src).one -/
noncomputable def spec_l00Src_one (s_ : L00Src) (n : Int) : Option (Bool × L00Src) :=
  (spec_l00Src_pick s_ n).bind fun y_1 =>
  some ((y_1.1 == 0), y_1.2)

/-- (*spec.l00Src).among -/
noncomputable def spec_l00Src_among (s_ : L00Src) (list : List Int) : Option (Int × L00Src) :=
  (spec_l00Src_pick s_ (list.length : Int)).bind fun y_1 =>
  ck (ixOk y_1.1 list.length) <|
  some ((list.getD y_1.1.toNat default), y_1.2)

/-- spec.DrawSampleOf -/
noncomputable def spec_DrawSampleOf (code : List UInt8) : Option (Int × Int × Int) :=
  (spec_l00From code).bind fun y_1 =>
  (spec_l00Src_pick y_1 40).bind fun y_2 =>
  (spec_l00Src_one y_2.2 10).bind fun y_3 =>
  if y_3.1 then
    (spec_l00Src_among y_3.2 ([(-1), 0, 10000, 10001, 9223372036854775807] : List Int)).bind fun y_5 =>
    (spec_l00Src_pick y_5.2 20).bind fun y_6 =>
    (spec_l00Src_one y_6.2 10).bind fun y_7 =>
    if y_7.1 then
      (spec_l00Src_among y_7.2 ([(-1), 0, 100, 101] : List Int)).bind fun y_9 =>
      (spec_l00Src_one y_9.2 10).bind fun y_10 =>
      if y_10.1 then
        (spec_l00Src_among y_10.2 ([(-1), 0, 65535, 65536] : List Int)).bind fun y_12 =>
        some (y_5.1, y_9.1, y_12.1)
      else
        (spec_l00Src_pick y_10.2 65536).bind fun y_13 =>
        some (y_5.1, y_9.1, y_13.1)
    else
      (spec_l00Src_one y_7.2 10).bind fun y_14 =>
      if y_14.1 then
        (spec_l00Src_among y_14.2 ([(-1), 0, 65535, 65536] : List Int)).bind fun y_16 =>
        some (y_5.1, y_6.1, y_16.1)
      else
        (spec_l00Src_pick y_14.2 65536).bind fun y_17 =>
        some (y_5.1, y_6.1, y_17.1)
  else
    (spec_l00Src_pick y_3.2 20).bind fun y_18 =>
    (spec_l00Src_one y_18.2 10).bind fun y_19 =>
    if y_19.1 then
      (spec_l00Src_among y_19.2 ([(-1), 0, 100, 101] : List Int)).bind fun y_21 =>
      (spec_l00Src_one y_21.2 10).bind fun y_22 =>
      if y_22.1 then
        (spec_l00Src_among y_22.2 ([(-1), 0, 65535, 65536] : List Int)).bind fun y_24 =>
        some (y_2.1, y_21.1, y_24.1)
      else
        (spec_l00Src_pick y_22.2 65536).bind fun y_25 =>
        some (y_2.1, y_21.1, y_25.1)
    else
      (spec_l00Src_one y_19.2 10).bind fun y_26 =>
      if y_26.1 then
        (spec_l00Src_among y_26.2 ([(-1), 0, 65535, 65536] : List Int)).bind fun y_28 =>
        some (y_2.1, y_18.1, y_28.1)
      else
        (spec_l00Src_pick y_26.2 65536).bind fun y_29 =>
        some (y_2.1, y_18.1, y_29.1)

/-- impl.in -/
noncomputable def impl_in (n : Int) (low : Int) (high : Int) : Option Bool :=
  some ((decide (low ≤ n)) && (decide (n ≤ high)))

noncomputable def impl_SampleOf_l1 (count : Int) (many : Int) : ((List Int) × Int × Int) → Option (((List Int) × Int × Int) ⊕ (List Int))
  | (out, x, i) =>
    if ((decide (i < count)) && (decide ((out.length : Int) < many))) then
      ck (nz 65537) <|
      ck (nz (IntKind.i64.wrap (count - i))) <|
      if (decide ((((IntKind.i64.wrap ((IntKind.i64.wrap (75 * x)) + 74)).tmod 65537).tmod (IntKind.i64.wrap (count - i))) < (IntKind.i64.wrap (many - (out.length : Int))))) then
        ck (appOk (out.length + ([i] : List Int).length) 8) <|
        some (.inl ((out ++ ([i] : List Int)), ((IntKind.i64.wrap ((IntKind.i64.wrap (75 * x)) + 74)).tmod 65537), (IntKind.i64.wrap (i + 1))))
      else
        some (.inl (out, ((IntKind.i64.wrap ((IntKind.i64.wrap (75 * x)) + 74)).tmod 65537), (IntKind.i64.wrap (i + 1))))
    else
      some (.inr out)

/-- impl.SampleOf -/
noncomputable def impl_SampleOf (count : Int) (many : Int) (seed : Int) : Option ((List Int) × Int) :=
  (impl_in count 0 10000).bind fun y_1 =>
  ck (!(!(!y_1)) || (impl_in many 0 100).isSome) <|
  ck (!(!((!y_1) || (!((impl_in many 0 100).getD default)))) || (impl_in seed 0 65535).isSome) <|
  if (((!y_1) || (!((impl_in many 0 100).getD default))) || (!((impl_in seed 0 65535).getD default))) then
    some (([] : List Int), 2)
  else
    if (decide (count < many)) then
      some (([] : List Int), 6)
    else
      (whileE (impl_SampleOf_l1 count many) (([] : List Int), seed, 0)).bind fun y_11 =>
      some (y_11, 0)

/-- spec.l00In -/
noncomputable def spec_l00In (n : Int) (low : Int) (high : Int) : Option Bool :=
  some ((decide (low ≤ n)) && (decide (n ≤ high)))

noncomputable def spec_SampleOf_l1 (count : Int) : ((List Int) × Int × Int × Int) → Option (((List Int) × Int × Int × Int) ⊕ (List Int))
  | (out, x, need, i) =>
    if (decide (0 < need)) then
      ck (nz 65537) <|
      ck (nz (IntKind.i64.wrap (count - i))) <|
      if (decide ((((IntKind.i64.wrap ((IntKind.i64.wrap (x * 75)) + 74)).tmod 65537).tmod (IntKind.i64.wrap (count - i))) < need)) then
        ck (appOk (out.length + ([i] : List Int).length) 8) <|
        some (.inl ((out ++ ([i] : List Int)), ((IntKind.i64.wrap ((IntKind.i64.wrap (x * 75)) + 74)).tmod 65537), (IntKind.i64.wrap (need - 1)), (IntKind.i64.wrap (i + 1))))
      else
        some (.inl (out, ((IntKind.i64.wrap ((IntKind.i64.wrap (x * 75)) + 74)).tmod 65537), need, (IntKind.i64.wrap (i + 1))))
    else
      some (.inr out)

/-- spec.SampleOf -/
noncomputable def spec_SampleOf (count : Int) (many : Int) (seed : Int) : Option ((List Int) × Int) :=
  (spec_l00In count 0 10000).bind fun y_1 =>
  ck (!(!(!y_1)) || (spec_l00In many 0 100).isSome) <|
  ck (!(!((!y_1) || (!((spec_l00In many 0 100).getD default)))) || (spec_l00In seed 0 65535).isSome) <|
  if (((!y_1) || (!((spec_l00In many 0 100).getD default))) || (!((spec_l00In seed 0 65535).getD default))) then
    some (([] : List Int), 2)
  else
    if (decide (count < many)) then
      some (([] : List Int), 6)
    else
      (whileE (spec_SampleOf_l1 count) (([] : List Int), seed, many, 0)).bind fun y_11 =>
      some (y_11, 0)

/-- spec.l00Min -/
noncomputable def spec_l00Min (a : Int) (b : Int) : Option Int :=
  if (decide (a < b)) then
    some a
  else
    some b

/-- spec.l26Kind -/
noncomputable def spec_l26Kind (n : Int) : Option Bool :=
  (spec_l00In n 1 5).bind fun y_1 =>
  some y_1

noncomputable def spec_l26Faults_l1 (faults : List Fault) (count : Int) : Int → Option (Int ⊕ (Unit ⊕ Bool))
  | i =>
    if (decide (i < (faults.length : Int))) then
      ck (ixOk i faults.length) <|
      (spec_l00In ((faults.getD i.toNat default).Index) 0 (IntKind.i64.wrap (count - 1))).bind fun y_3 =>
      ck (!(!(!y_3)) || (spec_l26Kind ((faults.getD i.toNat default).Kind)).isSome) <|
      if ((!y_3) || (!((spec_l26Kind ((faults.getD i.toNat default).Kind)).getD default))) then
        some (.inr (.inr false))
      else
        ck (!(decide (0 < i)) || ixOk (IntKind.i64.wrap (i - 1)) faults.length) <|
        ck (!((decide (0 < i)) && !(decide (((faults.getD i.toNat default).Index) < ((faults.getD (IntKind.i64.wrap (i - 1)).toNat default).Index)))) || ixOk (IntKind.i64.wrap (i - 1)) faults.length) <|
        ck (!(((decide (0 < i)) && !(decide (((faults.getD i.toNat default).Index) < ((faults.getD (IntKind.i64.wrap (i - 1)).toNat default).Index)))) && (((faults.getD (IntKind.i64.wrap (i - 1)).toNat default).Index) == ((faults.getD i.toNat default).Index))) || ixOk (IntKind.i64.wrap (i - 1)) faults.length) <|
        if ((decide (0 < i)) && ((decide (((faults.getD i.toNat default).Index) < ((faults.getD (IntKind.i64.wrap (i - 1)).toNat default).Index))) || ((((faults.getD (IntKind.i64.wrap (i - 1)).toNat default).Index) == ((faults.getD i.toNat default).Index)) && (decide (((faults.getD i.toNat default).Kind) ≤ ((faults.getD (IntKind.i64.wrap (i - 1)).toNat default).Kind)))))) then
          some (.inr (.inr false))
        else
          some (.inl (IntKind.i64.wrap (i + 1)))
    else
      some (.inr (.inl ()))

/-- spec.l26Faults -/
noncomputable def spec_l26Faults (faults : List Fault) (count : Int) : Option Bool :=
  (whileE (spec_l26Faults_l1 faults count) 0).bind fun y_10 =>
  match y_10 with
  | .inl y_10a =>
    some true
  | .inr y_10b =>
    some y_10b

noncomputable def spec_l26Draw_l1 (count : Int) : (L00Src × (List Fault) × Int) → Option ((L00Src × (List Fault) × Int) ⊕ (L00Src × (List Fault)))
  | (s_, out, i) =>
    (spec_l00Min count 12).bind fun y_1 =>
    if (decide (i < y_1)) then
      (spec_l00Src_one s_ 3).bind fun y_3 =>
      if y_3.1 then
        (spec_l00Src_pick y_3.2 5).bind fun y_5 =>
        ck (appOk (out.length + ([(Fault.mk i (IntKind.i64.wrap (1 + y_5.1)))] : List Fault).length) 16) <|
        (spec_l00Src_one y_5.2 8).bind fun y_7 =>
        if y_7.1 then
          (spec_l00Src_pick y_7.2 5).bind fun y_9 =>
          ck (appOk ((out ++ ([(Fault.mk i (IntKind.i64.wrap (1 + y_5.1)))] : List Fault)).length + ([(Fault.mk i (IntKind.i64.wrap (1 + y_9.1)))] : List Fault).length) 16) <|
          (spec_l26Faults ((out ++ ([(Fault.mk i (IntKind.i64.wrap (1 + y_5.1)))] : List Fault)) ++ ([(Fault.mk i (IntKind.i64.wrap (1 + y_9.1)))] : List Fault)) count).bind fun y_11 =>
          if (!y_11) then
            ck (cutOk 0 (IntKind.i64.wrap ((((out ++ ([(Fault.mk i (IntKind.i64.wrap (1 + y_5.1)))] : List Fault)) ++ ([(Fault.mk i (IntKind.i64.wrap (1 + y_9.1)))] : List Fault)).length : Int) - 1)) (((out ++ ([(Fault.mk i (IntKind.i64.wrap (1 + y_5.1)))] : List Fault)) ++ ([(Fault.mk i (IntKind.i64.wrap (1 + y_9.1)))] : List Fault)).length)) <|
            some (.inl (y_9.2, (((out ++ ([(Fault.mk i (IntKind.i64.wrap (1 + y_5.1)))] : List Fault)) ++ ([(Fault.mk i (IntKind.i64.wrap (1 + y_9.1)))] : List Fault)).take (IntKind.i64.wrap ((((out ++ ([(Fault.mk i (IntKind.i64.wrap (1 + y_5.1)))] : List Fault)) ++ ([(Fault.mk i (IntKind.i64.wrap (1 + y_9.1)))] : List Fault)).length : Int) - 1)).toNat), (IntKind.i64.wrap (i + 1))))
          else
            some (.inl (y_9.2, ((out ++ ([(Fault.mk i (IntKind.i64.wrap (1 + y_5.1)))] : List Fault)) ++ ([(Fault.mk i (IntKind.i64.wrap (1 + y_9.1)))] : List Fault)), (IntKind.i64.wrap (i + 1))))
        else
          some (.inl (y_7.2, (out ++ ([(Fault.mk i (IntKind.i64.wrap (1 + y_5.1)))] : List Fault)), (IntKind.i64.wrap (i + 1))))
      else
        (spec_l00Src_one y_3.2 8).bind fun y_14 =>
        if y_14.1 then
          (spec_l00Src_pick y_14.2 5).bind fun y_16 =>
          ck (appOk (out.length + ([(Fault.mk i (IntKind.i64.wrap (1 + y_16.1)))] : List Fault).length) 16) <|
          (spec_l26Faults (out ++ ([(Fault.mk i (IntKind.i64.wrap (1 + y_16.1)))] : List Fault)) count).bind fun y_18 =>
          if (!y_18) then
            ck (cutOk 0 (IntKind.i64.wrap (((out ++ ([(Fault.mk i (IntKind.i64.wrap (1 + y_16.1)))] : List Fault)).length : Int) - 1)) ((out ++ ([(Fault.mk i (IntKind.i64.wrap (1 + y_16.1)))] : List Fault)).length)) <|
            some (.inl (y_16.2, ((out ++ ([(Fault.mk i (IntKind.i64.wrap (1 + y_16.1)))] : List Fault)).take (IntKind.i64.wrap (((out ++ ([(Fault.mk i (IntKind.i64.wrap (1 + y_16.1)))] : List Fault)).length : Int) - 1)).toNat), (IntKind.i64.wrap (i + 1))))
          else
            some (.inl (y_16.2, (out ++ ([(Fault.mk i (IntKind.i64.wrap (1 + y_16.1)))] : List Fault)), (IntKind.i64.wrap (i + 1))))
        else
          some (.inl (y_14.2, out, (IntKind.i64.wrap (i + 1))))
    else
      some (.inr (s_, out))

/-- spec.l26Draw -/
noncomputable def spec_l26Draw (s_ : L00Src) (count : Int) : Option ((List Fault) × L00Src) :=
  (whileE (spec_l26Draw_l1 count) (s_, ([] : List Fault), 0)).bind fun y_21 =>
  if (decide (0 < (y_21.2.length : Int))) then
    (spec_l00Src_one y_21.1 10).bind fun y_23 =>
    if ((decide (0 < (y_21.2.length : Int))) && y_23.1) then
      (spec_l00Src_pick y_23.2 (y_21.2.length : Int)).bind fun y_25 =>
      ck (ixOk y_25.1 y_21.2.length) <|
      (spec_l00Src_among y_25.2 ([0, 5, 6, (-1)] : List Int)).bind fun y_27 =>
      (spec_l00Src_among y_27.2 ([(y_21.2.getD y_25.1.toNat default).Index, (IntKind.i64.wrap (((y_21.2.getD y_25.1.toNat default).Index) + 1)), (-1), count, 100] : List Int)).bind fun y_28 =>
      some ((y_21.2.set y_25.1.toNat (Fault.mk y_28.1 y_27.1)), y_28.2)
    else
      some (y_21.2, y_23.2)
  else
    some (y_21.2, y_21.1)

/-- spec.DrawCountFaults -/
noncomputable def spec_DrawCountFaults (code : List UInt8) : Option (List Fault) :=
  (spec_l00From code).bind fun y_1 =>
  (spec_l26Draw y_1 12).bind fun y_2 =>
  some y_2.1

noncomputable def impl_ordered_l1 (faults : List Fault) (estimates : Int) (t7 : List Fault) (t8 : Int) : Int → Option (Int ⊕ (Unit ⊕ Bool))
  | t9 =>
    if (decide (t9 < t8)) then
      ck (ixOk t9 t7.length) <|
      (impl_in ((t7.getD t9.toNat default).Index) 0 (IntKind.i64.wrap (estimates - 1))).bind fun y_3 =>
      ck (!(!(!y_3)) || (impl_in ((t7.getD t9.toNat default).Kind) 1 5).isSome) <|
      if ((!y_3) || (!((impl_in ((t7.getD t9.toNat default).Kind) 1 5).getD default))) then
        some (.inr (.inr false))
      else
        ck (!(decide (0 < t9)) || ixOk (IntKind.i64.wrap (t9 - 1)) faults.length) <|
        ck (!((decide (0 < t9)) && !(decide (((t7.getD t9.toNat default).Index) < ((faults.getD (IntKind.i64.wrap (t9 - 1)).toNat default).Index)))) || ixOk (IntKind.i64.wrap (t9 - 1)) faults.length) <|
        ck (!(((decide (0 < t9)) && !(decide (((t7.getD t9.toNat default).Index) < ((faults.getD (IntKind.i64.wrap (t9 - 1)).toNat default).Index)))) && (((faults.getD (IntKind.i64.wrap (t9 - 1)).toNat default).Index) == ((t7.getD t9.toNat default).Index))) || ixOk (IntKind.i64.wrap (t9 - 1)) faults.length) <|
        if ((decide (0 < t9)) && ((decide (((t7.getD t9.toNat default).Index) < ((faults.getD (IntKind.i64.wrap (t9 - 1)).toNat default).Index))) || ((((faults.getD (IntKind.i64.wrap (t9 - 1)).toNat default).Index) == ((t7.getD t9.toNat default).Index)) && (decide (((t7.getD t9.toNat default).Kind) ≤ ((faults.getD (IntKind.i64.wrap (t9 - 1)).toNat default).Kind)))))) then
          some (.inr (.inr false))
        else
          some (.inl (IntKind.i64.wrap (t9 + 1)))
    else
      some (.inr (.inl ()))

/-- impl.ordered -/
noncomputable def impl_ordered (faults : List Fault) (estimates : Int) : Option Bool :=
  (whileE (impl_ordered_l1 faults estimates faults (faults.length : Int)) 0).bind fun y_10 =>
  match y_10 with
  | .inl y_10a =>
    some true
  | .inr y_10b =>
    some y_10b

noncomputable def impl_CountFaults_l1 (t11 : List Fault) (t12 : Int) : ((List Int) × Int) → Option (((List Int) × Int) ⊕ (List Int))
  | (out, t13) =>
    if (decide (t13 < t12)) then
      ck (ixOk t13 t11.length) <|
      ck (ixOk (IntKind.i64.wrap (((t11.getD t13.toNat default).Kind) - 1)) out.length) <|
      some (.inl ((out.set ((IntKind.i64.wrap (((t11.getD t13.toNat default).Kind) - 1)).toNat) (IntKind.i64.wrap ((out.getD (IntKind.i64.wrap (((t11.getD t13.toNat default).Kind) - 1)).toNat default) + 1))), (IntKind.i64.wrap (t13 + 1))))
    else
      some (.inr out)

/-- impl.CountFaults -/
noncomputable def impl_CountFaults (faults : List Fault) : Option ((List Int) × Int) :=
  (impl_ordered faults 100).bind fun y_1 =>
  if (!y_1) then
    some (([] : List Int), 2)
  else
    ck (mkOk 5 8) <|
    (whileE (impl_CountFaults_l1 faults (faults.length : Int)) ((List.replicate 5 0), 0)).bind fun y_7 =>
    some (y_7, 0)

noncomputable def spec_CountFaults_l1 (faults : List Fault) : ((List Int) × Int) → Option (((List Int) × Int) ⊕ (List Int))
  | (out, i) =>
    if (decide (i < (faults.length : Int))) then
      ck (ixOk i faults.length) <|
      ck (ixOk (IntKind.i64.wrap (((faults.getD i.toNat default).Kind) - 1)) out.length) <|
      some (.inl ((out.set ((IntKind.i64.wrap (((faults.getD i.toNat default).Kind) - 1)).toNat) (IntKind.i64.wrap ((out.getD (IntKind.i64.wrap (((faults.getD i.toNat default).Kind) - 1)).toNat default) + 1))), (IntKind.i64.wrap (i + 1))))
    else
      some (.inr out)

/-- spec.CountFaults -/
noncomputable def spec_CountFaults (faults : List Fault) : Option ((List Int) × Int) :=
  (spec_l26Faults faults 100).bind fun y_1 =>
  if (!y_1) then
    some (([] : List Int), 2)
  else
    ck (mkOk 5 8) <|
    (whileE (spec_CountFaults_l1 faults) ((List.replicate 5 0), 0)).bind fun y_7 =>
    some (y_7, 0)

/-- spec.DrawNewFaults -/
noncomputable def spec_DrawNewFaults (code : List UInt8) : Option ((List Fault) × (List Fault)) :=
  (spec_l00From code).bind fun y_1 =>
  (spec_l26Draw y_1 12).bind fun y_2 =>
  (spec_l00Src_one y_2.2 3).bind fun y_3 =>
  if y_3.1 then
    some (y_2.1, y_2.1)
  else
    (spec_l26Draw y_3.2 12).bind fun y_5 =>
    some (y_2.1, y_5.1)

noncomputable def slices_Index_impl_Fault_impl_Fault_l1 (s_ : List Fault) (v : Fault) (t7 : Int) : Int → Option (Int ⊕ (Unit ⊕ Int))
  | t8 =>
    if (decide (t8 < t7)) then
      ck (ixOk t8 s_.length) <|
      if ((v.Index == ((s_.getD t8.toNat default).Index)) && (v.Kind == ((s_.getD t8.toNat default).Kind))) then
        some (.inr (.inr t8))
      else
        some (.inl (IntKind.i64.wrap (t8 + 1)))
    else
      some (.inr (.inl ()))

/-- slices.Index[[]impl.Fault,impl.Fault] -/
noncomputable def slices_Index_impl_Fault_impl_Fault (s_ : List Fault) (v : Fault) : Option Int :=
  (whileE (slices_Index_impl_Fault_impl_Fault_l1 s_ v (s_.length : Int)) 0).bind fun y_4 =>
  match y_4 with
  | .inl y_4a =>
    some (-1)
  | .inr y_4b =>
    some y_4b

/-- slices.Contains[[]impl.Fault,impl.Fault] -/
noncomputable def slices_Contains_impl_Fault_impl_Fault (s_ : List Fault) (v : Fault) : Option Bool :=
  (slices_Index_impl_Fault_impl_Fault s_ v).bind fun y_1 =>
  some (decide (0 ≤ y_1))

/-- impl.NewFaults$1 -/
noncomputable def impl_NewFaults_c1 (x : Fault) (t1 : List Fault) : Option Bool :=
  (slices_Contains_impl_Fault_impl_Fault t1 x).bind fun y_1 =>
  some (!y_1)

noncomputable def impl_chosen_impl_Fault__impl_NewFaults_c1_l1 (c : List Fault) (t9 : List Fault) (t10 : Int) : ((List Fault) × Int) → Option (((List Fault) × Int) ⊕ (List Fault))
  | (out, t11) =>
    if (decide (t11 < t10)) then
      ck (ixOk t11 t9.length) <|
      (impl_NewFaults_c1 (t9.getD t11.toNat default) c).bind fun y_3 =>
      if y_3 then
        ck (appOk (out.length + ([(t9.getD t11.toNat default)] : List Fault).length) 16) <|
        some (.inl ((out ++ ([(t9.getD t11.toNat default)] : List Fault)), (IntKind.i64.wrap (t11 + 1))))
      else
        some (.inl (out, (IntKind.i64.wrap (t11 + 1))))
    else
      some (.inr out)

/-- impl.chosen[impl.Fault] -/
noncomputable def impl_chosen_impl_Fault__impl_NewFaults_c1 (list : List Fault) (wanted_c0 : List Fault) : Option (List Fault) :=
  (whileE (impl_chosen_impl_Fault__impl_NewFaults_c1_l1 wanted_c0 list (list.length : Int)) (([] : List Fault), 0)).bind fun y_6 =>
  some y_6

/-- impl.NewFaults -/
noncomputable def impl_NewFaults (before : List Fault) (now : List Fault) : Option ((List Fault) × Int) :=
  (impl_ordered before 100).bind fun y_1 =>
  ck (!(!(!y_1)) || (impl_ordered now 100).isSome) <|
  if ((!y_1) || (!((impl_ordered now 100).getD default))) then
    some (([] : List Fault), 2)
  else
    (impl_chosen_impl_Fault__impl_NewFaults_c1 now before).bind fun y_4 =>
    some (y_4, 0)

noncomputable def spec_NewFaults_l2 (before : List Fault) (now : List Fault) (out : List Fault) (i : Int) : (Bool × Int) → Option ((Bool × Int) ⊕ Bool)
  | (known, k) =>
    if (decide (k < (before.length : Int))) then
      ck (!(!known) || ixOk k before.length) <|
      ck (!(!known) || ixOk i now.length) <|
      some (.inl ((known || ((((before.getD k.toNat default).Index) == ((now.getD i.toNat default).Index)) && (((before.getD k.toNat default).Kind) == ((now.getD i.toNat default).Kind)))), (IntKind.i64.wrap (k + 1))))
    else
      some (.inr known)

noncomputable def spec_NewFaults_l1 (before : List Fault) (now : List Fault) : ((List Fault) × Int) → Option (((List Fault) × Int) ⊕ (List Fault))
  | (out, i) =>
    if (decide (i < (now.length : Int))) then
      (whileE (spec_NewFaults_l2 before now out i) (false, 0)).bind fun y_8 =>
      if (!y_8) then
        ck (ixOk i now.length) <|
        ck (appOk (out.length + ([(now.getD i.toNat default)] : List Fault).length) 16) <|
        some (.inl ((out ++ ([(now.getD i.toNat default)] : List Fault)), (IntKind.i64.wrap (i + 1))))
      else
        some (.inl (out, (IntKind.i64.wrap (i + 1))))
    else
      some (.inr out)

/-- spec.NewFaults -/
noncomputable def spec_NewFaults (before : List Fault) (now : List Fault) : Option ((List Fault) × Int) :=
  (spec_l26Faults before 100).bind fun y_1 =>
  ck (!(!(!y_1)) || (spec_l26Faults now 100).isSome) <|
  if ((!y_1) || (!((spec_l26Faults now 100).getD default))) then
    some (([] : List Fault), 2)
  else
    (whileE (spec_NewFaults_l1 before now) (([] : List Fault), 0)).bind fun y_12 =>
    some (y_12, 0)

noncomputable def laws_f6ints_l1 (a : List Int) (b : List Int) : Int → Option (Int ⊕ (Unit ⊕ Bool))
  | i =>
    if (decide (i < (a.length : Int))) then
      ck (ixOk i a.length) <|
      ck (ixOk i b.length) <|
      if (!((a.getD i.toNat default) == (b.getD i.toNat default))) then
        some (.inr (.inr false))
      else
        some (.inl (IntKind.i64.wrap (i + 1)))
    else
      some (.inr (.inl ()))

/-- laws.f6ints -/
noncomputable def laws_f6ints (a : List Int) (b : List Int) : Option Bool :=
  if (!((a.length : Int) == (b.length : Int))) then
    some false
  else
    (whileE (laws_f6ints_l1 a b) 0).bind fun y_6 =>
    match y_6 with
    | .inl y_6a =>
      some true
    | .inr y_6b =>
      some y_6b

noncomputable def laws_FnSampled_l1 (count : Int) (many : Int) (bad : Int) (model : List Int) (f : List Fault) (one : Int) (right_ : List Int) (now : List Fault) (fresh : List Fault) (three : Int) (some_ : List Fault) : Int → Option (Int ⊕ (Unit ⊕ Bool))
  | i =>
    if (decide (i < (fresh.length : Int))) then
      ck (ixOk i fresh.length) <|
      ck (ixOk i some_.length) <|
      if (!((((fresh.getD i.toNat default).Index) == ((some_.getD i.toNat default).Index)) && (((fresh.getD i.toNat default).Kind) == ((some_.getD i.toNat default).Kind)))) then
        some (.inr (.inr false))
      else
        some (.inl (IntKind.i64.wrap (i + 1)))
    else
      some (.inr (.inl ()))

noncomputable def laws_FnSampled_l2 (count : Int) (many : Int) (bad : Int) (model : List Int) (f : List Fault) (right_ : List Int) (now : List Fault) (three : Int) : (Int × Int) → Option ((Int × Int) ⊕ Int)
  | (sum, i) =>
    if (decide (i < (right_.length : Int))) then
      ck (ixOk i right_.length) <|
      some (.inl ((IntKind.i64.wrap (sum + (right_.getD i.toNat default))), (IntKind.i64.wrap (i + 1))))
    else
      some (.inr sum)

noncomputable def laws_FnSampled_l3 (count : Int) (many : Int) (model : List Int) : Int → Option (Int ⊕ (Unit ⊕ Bool))
  | i =>
    if (decide (i < (model.length : Int))) then
      ck (ixOk i model.length) <|
      ck (!((!((decide ((model.getD i.toNat default) < 0)) || (decide (count ≤ (model.getD i.toNat default))))) && (decide (0 < i))) || ixOk (IntKind.i64.wrap (i - 1)) model.length) <|
      if (((decide ((model.getD i.toNat default) < 0)) || (decide (count ≤ (model.getD i.toNat default)))) || ((decide (0 < i)) && (decide ((model.getD i.toNat default) ≤ (model.getD (IntKind.i64.wrap (i - 1)).toNat default))))) then
        some (.inr (.inr false))
      else
        some (.inl (IntKind.i64.wrap (i + 1)))
    else
      some (.inr (.inl ()))

noncomputable def laws_FnSampled_l4 (count : Int) (many : Int) (model : List Int) : Int → Option (Int ⊕ (Unit ⊕ Bool))
  | i =>
    if (decide (i < (model.length : Int))) then
      ck (ixOk i model.length) <|
      ck (!((!((decide ((model.getD i.toNat default) < 0)) || (decide (count ≤ (model.getD i.toNat default))))) && (decide (0 < i))) || ixOk (IntKind.i64.wrap (i - 1)) model.length) <|
      if (((decide ((model.getD i.toNat default) < 0)) || (decide (count ≤ (model.getD i.toNat default)))) || ((decide (0 < i)) && (decide ((model.getD i.toNat default) ≤ (model.getD (IntKind.i64.wrap (i - 1)).toNat default))))) then
        some (.inr (.inr false))
      else
        some (.inl (IntKind.i64.wrap (i + 1)))
    else
      some (.inr (.inl ()))

noncomputable def laws_FnSampled_l5 (count : Int) (many : Int) (model : List Int) : Int → Option (Int ⊕ (Unit ⊕ Bool))
  | i =>
    if (decide (i < (model.length : Int))) then
      ck (ixOk i model.length) <|
      ck (!((!((decide ((model.getD i.toNat default) < 0)) || (decide (count ≤ (model.getD i.toNat default))))) && (decide (0 < i))) || ixOk (IntKind.i64.wrap (i - 1)) model.length) <|
      if (((decide ((model.getD i.toNat default) < 0)) || (decide (count ≤ (model.getD i.toNat default)))) || ((decide (0 < i)) && (decide ((model.getD i.toNat default) ≤ (model.getD (IntKind.i64.wrap (i - 1)).toNat default))))) then
        some (.inr (.inr false))
      else
        some (.inl (IntKind.i64.wrap (i + 1)))
    else
      some (.inr (.inl ()))

noncomputable def laws_FnSampled_l6 (count : Int) (many : Int) (model : List Int) : Int → Option (Int ⊕ (Unit ⊕ Bool))
  | i =>
    if (decide (i < (model.length : Int))) then
      ck (ixOk i model.length) <|
      ck (!((!((decide ((model.getD i.toNat default) < 0)) || (decide (count ≤ (model.getD i.toNat default))))) && (decide (0 < i))) || ixOk (IntKind.i64.wrap (i - 1)) model.length) <|
      if (((decide ((model.getD i.toNat default) < 0)) || (decide (count ≤ (model.getD i.toNat default)))) || ((decide (0 < i)) && (decide ((model.getD i.toNat default) ≤ (model.getD (IntKind.i64.wrap (i - 1)).toNat default))))) then
        some (.inr (.inr false))
      else
        some (.inl (IntKind.i64.wrap (i + 1)))
    else
      some (.inr (.inl ()))

/-- laws.FnSampled -/
noncomputable def laws_FnSampled (code : List UInt8) : Option Bool :=
  (laws_f6big code).bind fun y_1 =>
  if y_1 then
    some true
  else
    (spec_DrawSampleOf code).bind fun y_3 =>
    (impl_SampleOf y_3.1 y_3.2.1 y_3.2.2).bind fun y_4 =>
    (spec_SampleOf y_3.1 y_3.2.1 y_3.2.2).bind fun y_5 =>
    (spec_DrawCountFaults code).bind fun y_6 =>
    (impl_CountFaults y_6).bind fun y_7 =>
    (spec_CountFaults y_6).bind fun y_8 =>
    (spec_DrawNewFaults code).bind fun y_9 =>
    (impl_NewFaults y_9.1 y_9.2).bind fun y_10 =>
    (spec_NewFaults y_9.1 y_9.2).bind fun y_11 =>
    ck (!(!(!(y_4.2 == y_5.2))) || (laws_f6ints y_4.1 y_5.1).isSome) <|
    ck (!(!(((!(y_4.2 == y_5.2)) || (!((laws_f6ints y_4.1 y_5.1).getD default))) || (!(y_7.2 == y_8.2)))) || (laws_f6ints y_7.1 y_8.1).isSome) <|
    if ((((((!(y_4.2 == y_5.2)) || (!((laws_f6ints y_4.1 y_5.1).getD default))) || (!(y_7.2 == y_8.2))) || (!((laws_f6ints y_7.1 y_8.1).getD default))) || (!(y_10.2 == y_11.2))) || (!((y_10.1.length : Int) == (y_11.1.length : Int)))) then
      some false
    else
      (whileE (laws_FnSampled_l1 y_3.1 y_3.2.1 y_4.2 y_5.1 y_6 y_7.2 y_8.1 y_9.2 y_10.1 y_10.2 y_11.1) 0).bind fun y_19 =>
      match y_19 with
      | .inl y_19a =>
        if (y_7.2 == 0) then
          (whileE (laws_FnSampled_l2 y_3.1 y_3.2.1 y_4.2 y_5.1 y_6 y_8.1 y_9.2 y_10.2) (0, 0)).bind fun y_23 =>
          if (!(y_23 == (y_6.length : Int))) then
            some false
          else
            if (y_10.2 == 0) then
              (impl_NewFaults y_9.2 y_9.2).bind fun y_26 =>
              if ((!(y_26.2 == 0)) || (!((y_26.1.length : Int) == 0))) then
                some false
              else
                if (!(y_4.2 == 0)) then
                  some true
                else
                  (whileE (laws_FnSampled_l3 y_3.1 y_3.2.1 y_5.1) 0).bind fun y_33 =>
                  match y_33 with
                  | .inl y_33a =>
                    some ((y_5.1.length : Int) == y_3.2.1)
                  | .inr y_33b =>
                    some y_33b
            else
              if (!(y_4.2 == 0)) then
                some true
              else
                (whileE (laws_FnSampled_l4 y_3.1 y_3.2.1 y_5.1) 0).bind fun y_39 =>
                match y_39 with
                | .inl y_39a =>
                  some ((y_5.1.length : Int) == y_3.2.1)
                | .inr y_39b =>
                  some y_39b
        else
          if (y_10.2 == 0) then
            (impl_NewFaults y_9.2 y_9.2).bind fun y_41 =>
            if ((!(y_41.2 == 0)) || (!((y_41.1.length : Int) == 0))) then
              some false
            else
              if (!(y_4.2 == 0)) then
                some true
              else
                (whileE (laws_FnSampled_l5 y_3.1 y_3.2.1 y_5.1) 0).bind fun y_48 =>
                match y_48 with
                | .inl y_48a =>
                  some ((y_5.1.length : Int) == y_3.2.1)
                | .inr y_48b =>
                  some y_48b
          else
            if (!(y_4.2 == 0)) then
              some true
            else
              (whileE (laws_FnSampled_l6 y_3.1 y_3.2.1 y_5.1) 0).bind fun y_54 =>
              match y_54 with
              | .inl y_54a =>
                some ((y_5.1.length : Int) == y_3.2.1)
              | .inr y_54b =>
                some y_54b
      | .inr y_19b =>
        some y_19b

end Go.Proofs.Ytpjpfdoaemoddaa
