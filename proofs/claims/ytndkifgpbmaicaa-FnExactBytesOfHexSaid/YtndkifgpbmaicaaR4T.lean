/- Typed forms of the functions that R4 reaches. No condition. -/
import Derived.Test.YtndkifgpbmaicaaEngSH
namespace Go.Proofs.Ytndkifgpbmaicaa
open Go Go.RowKit
set_option linter.unusedVariables false

structure Point where
  Time : Int
  Mag : Int
  deriving Inhabited, DecidableEq
def Point_av (x : Point) : AV := .agg ([.int .i64 x.Time, .int .i64 x.Mag])

structure Star where
  Name : List UInt8
  Ascend : Int
  Decl : Int
  Bright : Int
  Faint : Int
  deriving Inhabited, DecidableEq
def Star_av (x : Star) : AV := .agg ([.str x.Name, .int .i64 x.Ascend, .int .i64 x.Decl, .int .i64 x.Bright, .int .i64 x.Faint])

structure Estimate where
  Time : Int
  Star : List UInt8
  Observer : List UInt8
  Mag : Int
  Fainter : Bool
  deriving Inhabited, DecidableEq
def Estimate_av (x : Estimate) : AV := .agg ([.int .i64 x.Time, .str x.Star, .str x.Observer, .int .i64 x.Mag, .bool x.Fainter])

structure Desk where
  Stars : List Star
  Estimates : List Estimate
  Log : List UInt8
  deriving Inhabited, DecidableEq
def Desk_av (x : Desk) : AV := .agg ([.sl 5 (List.map Star_av x.Stars), .sl 5 (List.map Estimate_av x.Estimates), .str x.Log])

attribute [go_sem] Point_av Star_av Estimate_av Desk_av

noncomputable def laws_toByteS_l1 (a : List UInt8) : ((List UInt8) × Int) → Option (((List UInt8) × Int) ⊕ (List UInt8))
  | (out, i) =>
    if (decide (i < (a.length : Int))) then
      ck (ixOk i a.length) <|
      ck (ixOk i out.length) <|
      some (.inl ((out.set i.toNat (a.getD i.toNat default)), (IntKind.i64.wrap (i + 1))))
    else
      some (.inr out)

/-- laws.toByteS -/
noncomputable def laws_toByteS (a : List UInt8) : Option (List UInt8) :=
  ck (mkOk (a.length : Int) 1) <|
  (whileE (laws_toByteS_l1 a) ((List.replicate (a.length : Int).toNat 0), 0)).bind fun y_5 =>
  some y_5

noncomputable def spec_l25Sum_l1 (b : List UInt8) : (Int × Int × Int) → Option ((Int × Int × Int) ⊕ (Int × Int))
  | (sum, all, i) =>
    if (decide (i < (b.length : Int))) then
      ck (ixOk i b.length) <|
      ck (nz 251) <|
      some (.inl (((IntKind.i64.wrap (sum + ((b.getD i.toNat default).toNat : Int))).tmod 251), ((IntKind.i64.wrap (all + ((IntKind.i64.wrap (sum + ((b.getD i.toNat default).toNat : Int))).tmod 251))).tmod 251), (IntKind.i64.wrap (i + 1))))
    else
      some (.inr (sum, all))

/-- spec.l25Sum -/
noncomputable def spec_l25Sum (b : List UInt8) : Option Int :=
  (whileE (spec_l25Sum_l1 b) (1, 0, 0)).bind fun y_4 =>
  some (IntKind.i64.wrap ((IntKind.i64.wrap (251 * y_4.2)) + y_4.1))

/-- spec.l25Open -/
noncomputable def spec_l25Open (b : List UInt8) (kind : Int) : Option Int :=
  ck (!(!((decide ((b.length : Int) < 3)) || (decide (8000 < (b.length : Int))))) || ixOk 0 b.length) <|
  if (((decide ((b.length : Int) < 3)) || (decide (8000 < (b.length : Int)))) || (!(((b.getD 0 default).toNat : Int) == kind))) then
    some 8
  else
    ck (ixOk (IntKind.i64.wrap ((b.length : Int) - 2)) b.length) <|
    ck (ixOk (IntKind.i64.wrap ((b.length : Int) - 1)) b.length) <|
    ck (cutOk 0 (IntKind.i64.wrap ((b.length : Int) - 2)) b.length) <|
    (spec_l25Sum (cut b 0 (IntKind.i64.wrap ((b.length : Int) - 2)))).bind fun y_6 =>
    if (!((IntKind.i64.wrap ((IntKind.i64.wrap (256 * ((b.getD (IntKind.i64.wrap ((b.length : Int) - 2)).toNat default).toNat : Int))) + ((b.getD (IntKind.i64.wrap ((b.length : Int) - 1)).toNat default).toNat : Int))) == y_6)) then
      some 9
    else
      some 0

/-- spec.KindOfPacked -/
noncomputable def spec_KindOfPacked (b : List UInt8) : Option (Int × Int) :=
  ck (!(!((b.length : Int) == 0)) || ixOk 0 b.length) <|
  ck (!((!((b.length : Int) == 0)) && (!(((b.getD 0 default).toNat : Int) == 69))) || ixOk 0 b.length) <|
  if (((b.length : Int) == 0) || ((!(((b.getD 0 default).toNat : Int) == 69)) && (!(((b.getD 0 default).toNat : Int) == 67)))) then
    some (0, 8)
  else
    ck (ixOk 0 b.length) <|
    (spec_l25Open b ((b.getD 0 default).toNat : Int)).bind fun y_5 =>
    if (!(y_5 == 0)) then
      some (0, y_5)
    else
      some (((b.getD 0 default).toNat : Int), 0)

noncomputable def impl_SumOfBytes_l1 (t7 : List UInt8) (t8 : Int) : (Int × Int × Int) → Option ((Int × Int × Int) ⊕ (Int × Int))
  | (s_, t, t9) =>
    if (decide (t9 < t8)) then
      ck (ixOk t9 t7.length) <|
      ck (nz 251) <|
      some (.inl (((IntKind.i64.wrap (s_ + ((t7.getD t9.toNat default).toNat : Int))).tmod 251), ((IntKind.i64.wrap (t + ((IntKind.i64.wrap (s_ + ((t7.getD t9.toNat default).toNat : Int))).tmod 251))).tmod 251), (IntKind.i64.wrap (t9 + 1))))
    else
      some (.inr (s_, t))

/-- impl.SumOfBytes -/
noncomputable def impl_SumOfBytes (b : List UInt8) : Option Int :=
  (whileE (impl_SumOfBytes_l1 b (b.length : Int)) (1, 0, 0)).bind fun y_4 =>
  some (IntKind.i64.wrap ((IntKind.i64.wrap (251 * y_4.2)) + y_4.1))

/-- impl.KindOfPacked$1 -/
noncomputable def impl_KindOfPacked_c1 (kind : UInt8) : Option Bool :=
  some (((kind.toNat : Int) == 69) || ((kind.toNat : Int) == 67))

/-- impl.checkPacked -/
noncomputable def impl_checkPacked__impl_KindOfPacked_c1 (b : List UInt8) : Option Int :=
  ck (!(!((decide ((b.length : Int) < 3)) || (decide (8000 < (b.length : Int))))) || ixOk 0 b.length) <|
  ck (!(!((decide ((b.length : Int) < 3)) || (decide (8000 < (b.length : Int))))) || (impl_KindOfPacked_c1 (b.getD 0 default)).isSome) <|
  if (((decide ((b.length : Int) < 3)) || (decide (8000 < (b.length : Int)))) || (!((impl_KindOfPacked_c1 (b.getD 0 default)).getD default))) then
    some 8
  else
    ck (cutOk 0 (IntKind.i64.wrap ((b.length : Int) - 2)) b.length) <|
    (impl_SumOfBytes (cut b 0 (IntKind.i64.wrap ((b.length : Int) - 2)))).bind fun y_5 =>
    ck (ixOk (IntKind.i64.wrap ((b.length : Int) - 2)) b.length) <|
    ck (ixOk (IntKind.i64.wrap ((IntKind.i64.wrap ((b.length : Int) - 2)) + 1)) b.length) <|
    if (!(y_5 == (IntKind.i64.wrap ((IntKind.i64.wrap (((b.getD (IntKind.i64.wrap ((b.length : Int) - 2)).toNat default).toNat : Int) * 256)) + ((b.getD (IntKind.i64.wrap ((IntKind.i64.wrap ((b.length : Int) - 2)) + 1)).toNat default).toNat : Int))))) then
      some 9
    else
      some 0

/-- impl.KindOfPacked -/
noncomputable def impl_KindOfPacked (b : List UInt8) : Option (Int × Int) :=
  (impl_checkPacked__impl_KindOfPacked_c1 b).bind fun y_1 =>
  if (!(y_1 == 0)) then
    some (0, y_1)
  else
    ck (ixOk 0 b.length) <|
    some (((b.getD 0 default).toNat : Int), 0)

noncomputable def laws_eqByteS_l1 (a : List UInt8) (b : List UInt8) : Int → Option (Int ⊕ (Unit ⊕ Bool))
  | i =>
    if (decide (i < (a.length : Int))) then
      ck (ixOk i a.length) <|
      ck (ixOk i b.length) <|
      if (!(((a.getD i.toNat default).toNat : Int) == ((b.getD i.toNat default).toNat : Int))) then
        some (.inr (.inr false))
      else
        some (.inl (IntKind.i64.wrap (i + 1)))
    else
      some (.inr (.inl ()))

/-- laws.eqByteS -/
noncomputable def laws_eqByteS (a : List UInt8) (b : List UInt8) : Option Bool :=
  if (!((a.length : Int) == (b.length : Int))) then
    some false
  else
    (whileE (laws_eqByteS_l1 a b) 0).bind fun y_6 =>
    match y_6 with
    | .inl y_6a =>
      some true
    | .inr y_6b =>
      some y_6b

/-- laws.FnExactKindOfPacked -/
noncomputable def laws_FnExactKindOfPacked (aB : List UInt8) : Option Bool :=
  if (decide (1048576 < (aB.length : Int))) then
    some true
  else
    (laws_toByteS aB).bind fun y_2 =>
    (spec_KindOfPacked y_2).bind fun y_3 =>
    (impl_KindOfPacked y_2).bind fun y_4 =>
    if ((!(y_4.1 == y_3.1)) || (!(y_4.2 == y_3.2))) then
      some false
    else
      (laws_eqByteS y_2 y_2).bind fun y_6 =>
      if (!y_6) then
        some false
      else
        some true

/-- laws.szPointS -/
noncomputable def laws_szPointS (a : List Point) (left_ : Int) : Option Int :=
  if (decide ((IntKind.i64.wrap (left_ - (a.length : Int))) < 0)) then
    some (-1)
  else
    some (IntKind.i64.wrap (left_ - (a.length : Int)))

/-- laws.toPoint -/
noncomputable def laws_toPoint (a : Point) : Option Point :=
  some a

noncomputable def laws_toPointS_l1 (a : List Point) : ((List Point) × Int) → Option (((List Point) × Int) ⊕ (List Point))
  | (out, i) =>
    if (decide (i < (a.length : Int))) then
      ck (ixOk i a.length) <|
      (laws_toPoint (a.getD i.toNat default)).bind fun y_4 =>
      ck (ixOk i out.length) <|
      some (.inl ((out.set i.toNat y_4), (IntKind.i64.wrap (i + 1))))
    else
      some (.inr out)

/-- laws.toPointS -/
noncomputable def laws_toPointS (a : List Point) : Option (List Point) :=
  ck (mkOk (a.length : Int) 16) <|
  (whileE (laws_toPointS_l1 a) ((List.replicate (a.length : Int).toNat (Point.mk 0 0)), 0)).bind fun y_6 =>
  some y_6

/-- spec.l00In -/
noncomputable def spec_l00In (n : Int) (low : Int) (high : Int) : Option Bool :=
  some ((decide (low ≤ n)) && (decide (n ≤ high)))

/-- spec.l06Time -/
noncomputable def spec_l06Time (n : Int) : Option Bool :=
  (spec_l00In n 0 10000000).bind fun y_1 =>
  some y_1

/-- spec.l02Mag -/
noncomputable def spec_l02Mag (m : Int) : Option Bool :=
  (spec_l00In m (-2000) 20000).bind fun y_1 =>
  some y_1

noncomputable def spec_l08Ok_l1 (curve : List Point) : Int → Option (Int ⊕ (Unit ⊕ Bool))
  | i =>
    if (decide (i < (curve.length : Int))) then
      ck (ixOk i curve.length) <|
      (spec_l06Time ((curve.getD i.toNat default).Time)).bind fun y_3 =>
      ck (!(!(!y_3)) || (spec_l02Mag ((curve.getD i.toNat default).Mag)).isSome) <|
      ck (!((!((!y_3) || (!((spec_l02Mag ((curve.getD i.toNat default).Mag)).getD default)))) && (decide (0 < i))) || ixOk (IntKind.i64.wrap (i - 1)) curve.length) <|
      if (((!y_3) || (!((spec_l02Mag ((curve.getD i.toNat default).Mag)).getD default))) || ((decide (0 < i)) && (decide (((curve.getD i.toNat default).Time) ≤ ((curve.getD (IntKind.i64.wrap (i - 1)).toNat default).Time))))) then
        some (.inr (.inr false))
      else
        some (.inl (IntKind.i64.wrap (i + 1)))
    else
      some (.inr (.inl ()))

/-- spec.l08Ok -/
noncomputable def spec_l08Ok (curve : List Point) : Option Bool :=
  (whileE (spec_l08Ok_l1 curve) 0).bind fun y_7 =>
  match y_7 with
  | .inl y_7a =>
    some (decide ((curve.length : Int) ≤ 100))
  | .inr y_7b =>
    some y_7b

noncomputable def spec_l25Number_l1  : (Int × (List UInt8)) → Option ((Int × (List UInt8)) ⊕ (Int × (List UInt8)))
  | (n, out) =>
    if (decide (128 ≤ n)) then
      ck (nz 128) <|
      ck (appOk (out.length + ([(toU8 (IntKind.u8.wrap (IntKind.i64.wrap ((n.tmod 128) + 128))))] : List UInt8).length) 1) <|
      some (.inl ((IntKind.i64.wrap (n.tdiv 128)), (out ++ ([(toU8 (IntKind.u8.wrap (IntKind.i64.wrap ((n.tmod 128) + 128))))] : List UInt8))))
    else
      some (.inr (n, out))

/-- spec.l25Number -/
noncomputable def spec_l25Number (n : Int) : Option (List UInt8) :=
  (whileE (spec_l25Number_l1) (n, ([] : List UInt8))).bind fun y_4 =>
  ck (appOk (y_4.2.length + ([(toU8 (IntKind.u8.wrap y_4.1))] : List UInt8).length) 1) <|
  some (y_4.2 ++ ([(toU8 (IntKind.u8.wrap y_4.1))] : List UInt8))

/-- spec.l25Fold -/
noncomputable def spec_l25Fold (n : Int) : Option Int :=
  if (decide (n < 0)) then
    some (IntKind.i64.wrap ((IntKind.i64.wrap ((-2) * n)) - 1))
  else
    some (IntKind.i64.wrap (2 * n))

/-- spec.l25Close -/
noncomputable def spec_l25Close (out : List UInt8) : Option (List UInt8) :=
  (spec_l25Sum out).bind fun y_1 =>
  ck (nz 256) <|
  ck (appOk (out.length + ([(toU8 (IntKind.u8.wrap (IntKind.i64.wrap (y_1.tdiv 256))))] : List UInt8).length) 1) <|
  ck (appOk ((out ++ ([(toU8 (IntKind.u8.wrap (IntKind.i64.wrap (y_1.tdiv 256))))] : List UInt8)).length + ([(toU8 (IntKind.u8.wrap (y_1.tmod 256)))] : List UInt8).length) 1) <|
  some ((out ++ ([(toU8 (IntKind.u8.wrap (IntKind.i64.wrap (y_1.tdiv 256))))] : List UInt8)) ++ ([(toU8 (IntKind.u8.wrap (y_1.tmod 256)))] : List UInt8))

noncomputable def spec_l25Curve_l1 (curve : List Point) : ((List UInt8) × Int × Int × Int) → Option (((List UInt8) × Int × Int × Int) ⊕ (List UInt8))
  | (out, time, mag, i) =>
    if (decide (i < (curve.length : Int))) then
      ck (ixOk i curve.length) <|
      (spec_l25Number (IntKind.i64.wrap (((curve.getD i.toNat default).Time) - time))).bind fun y_5 =>
      ck (appOk (out.length + y_5.length) 1) <|
      (spec_l25Fold (IntKind.i64.wrap (((curve.getD i.toNat default).Mag) - mag))).bind fun y_7 =>
      (spec_l25Number y_7).bind fun y_8 =>
      ck (appOk ((out ++ y_5).length + y_8.length) 1) <|
      some (.inl (((out ++ y_5) ++ y_8), (curve.getD i.toNat default).Time, (curve.getD i.toNat default).Mag, (IntKind.i64.wrap (i + 1))))
    else
      some (.inr out)

/-- spec.l25Curve -/
noncomputable def spec_l25Curve (curve : List Point) : Option (List UInt8) :=
  (spec_l25Number (curve.length : Int)).bind fun y_1 =>
  ck (appOk (([(67 : UInt8)] : List UInt8).length + y_1.length) 1) <|
  (whileE (spec_l25Curve_l1 curve) ((([(67 : UInt8)] : List UInt8) ++ y_1), 0, 0, 0)).bind fun y_10 =>
  (spec_l25Close y_10).bind fun y_11 =>
  some y_11

/-- spec.PackCurve -/
noncomputable def spec_PackCurve (curve : List Point) : Option ((List UInt8) × Int) :=
  (spec_l08Ok curve).bind fun y_1 =>
  if (!y_1) then
    some (([] : List UInt8), 1)
  else
    (spec_l25Curve curve).bind fun y_3 =>
    some (y_3, 0)

noncomputable def impl_appendNumber_l1  : ((List UInt8) × Int) → Option (((List UInt8) × Int) ⊕ ((List UInt8) × Int))
  | (b, n) =>
    if (decide (128 ≤ n)) then
      ck (nz 128) <|
      ck (appOk (b.length + ([(toU8 (IntKind.u8.wrap (IntKind.i64.wrap ((n.tmod 128) + 128))))] : List UInt8).length) 1) <|
      some (.inl ((b ++ ([(toU8 (IntKind.u8.wrap (IntKind.i64.wrap ((n.tmod 128) + 128))))] : List UInt8)), (IntKind.i64.wrap (n.tdiv 128))))
    else
      some (.inr (b, n))

/-- impl.appendNumber -/
noncomputable def impl_appendNumber (b : List UInt8) (n : Int) : Option (List UInt8) :=
  (whileE (impl_appendNumber_l1) (b, n)).bind fun y_4 =>
  ck (appOk (y_4.1.length + ([(toU8 (IntKind.u8.wrap y_4.2))] : List UInt8).length) 1) <|
  some (y_4.1 ++ ([(toU8 (IntKind.u8.wrap y_4.2))] : List UInt8))

/-- impl.fold -/
noncomputable def impl_fold (n : Int) : Option Int :=
  if (decide (n < 0)) then
    some (IntKind.i64.wrap ((IntKind.i64.wrap ((-2) * n)) - 1))
  else
    some (IntKind.i64.wrap (2 * n))

/-- impl.in -/
noncomputable def impl_in (n : Int) (low : Int) (high : Int) : Option Bool :=
  some ((decide (low ≤ n)) && (decide (n ≤ high)))

/-- impl.ValidTime -/
noncomputable def impl_ValidTime (t : Int) : Option Bool :=
  (impl_in t 0 10000000).bind fun y_1 =>
  some y_1

/-- impl.ValidMag -/
noncomputable def impl_ValidMag (m : Int) : Option Bool :=
  (impl_in m (-2000) 20000).bind fun y_1 =>
  some y_1

noncomputable def impl_ValidCurve_l1 (curve : List Point) (t8 : List Point) (t9 : Int) : Int → Option (Int ⊕ (Unit ⊕ Bool))
  | t10 =>
    if (decide (t10 < t9)) then
      ck (ixOk t10 t8.length) <|
      (impl_ValidTime ((t8.getD t10.toNat default).Time)).bind fun y_4 =>
      ck (!(!(!y_4)) || (impl_ValidMag ((t8.getD t10.toNat default).Mag)).isSome) <|
      ck (!((!((!y_4) || (!((impl_ValidMag ((t8.getD t10.toNat default).Mag)).getD default)))) && (decide (0 < t10))) || ixOk (IntKind.i64.wrap (t10 - 1)) curve.length) <|
      if (((!y_4) || (!((impl_ValidMag ((t8.getD t10.toNat default).Mag)).getD default))) || ((decide (0 < t10)) && (decide (((t8.getD t10.toNat default).Time) ≤ ((curve.getD (IntKind.i64.wrap (t10 - 1)).toNat default).Time))))) then
        some (.inr (.inr false))
      else
        some (.inl (IntKind.i64.wrap (t10 + 1)))
    else
      some (.inr (.inl ()))

/-- impl.ValidCurve -/
noncomputable def impl_ValidCurve (curve : List Point) : Option Bool :=
  if (decide (100 < (curve.length : Int))) then
    some false
  else
    (whileE (impl_ValidCurve_l1 curve curve (curve.length : Int)) 0).bind fun y_8 =>
    match y_8 with
    | .inl y_8a =>
      some true
    | .inr y_8b =>
      some y_8b

/-- impl.count[impl.Point] -/
noncomputable def impl_count_impl_Point (list : List Point) : Option Int :=
  some (list.length : Int)

/-- impl.sealed -/
noncomputable def impl_sealed (b : List UInt8) : Option (List UInt8) :=
  (impl_SumOfBytes b).bind fun y_1 =>
  ck (nz 256) <|
  ck (appOk (b.length + ([(toU8 (IntKind.u8.wrap (IntKind.i64.wrap (y_1.tdiv 256)))), (toU8 (IntKind.u8.wrap (y_1.tmod 256)))] : List UInt8).length) 1) <|
  some (b ++ ([(toU8 (IntKind.u8.wrap (IntKind.i64.wrap (y_1.tdiv 256)))), (toU8 (IntKind.u8.wrap (y_1.tmod 256)))] : List UInt8))

noncomputable def impl_PackCurve_l1 (t16 : List Point) (t17 : Int) : ((List UInt8) × Int × Int × Int) → Option (((List UInt8) × Int × Int × Int) ⊕ (List UInt8))
  | (b, time, mag, t18) =>
    if (decide (t18 < t17)) then
      ck (ixOk t18 t16.length) <|
      (impl_appendNumber b (IntKind.i64.wrap (((t16.getD t18.toNat default).Time) - time))).bind fun y_7 =>
      (impl_fold (IntKind.i64.wrap (((t16.getD t18.toNat default).Mag) - mag))).bind fun y_8 =>
      (impl_appendNumber y_7 y_8).bind fun y_9 =>
      some (.inl (y_9, (t16.getD t18.toNat default).Time, (t16.getD t18.toNat default).Mag, (IntKind.i64.wrap (t18 + 1))))
    else
      some (.inr b)

/-- impl.PackCurve -/
noncomputable def impl_PackCurve (curve : List Point) : Option ((List UInt8) × Int) :=
  (impl_ValidCurve curve).bind fun y_1 =>
  if (!y_1) then
    some (([] : List UInt8), 1)
  else
    (impl_count_impl_Point curve).bind fun y_3 =>
    (impl_appendNumber ([(67 : UInt8)] : List UInt8) y_3).bind fun y_4 =>
    (whileE (impl_PackCurve_l1 curve (curve.length : Int)) (y_4, 0, 0, 0)).bind fun y_10 =>
    (impl_sealed y_10).bind fun y_11 =>
    some (y_11, 0)

/-- laws.eqPoint -/
noncomputable def laws_eqPoint (a : Point) (b : Point) : Option Bool :=
  if (!(a.Time == b.Time)) then
    some false
  else
    if (!(a.Mag == b.Mag)) then
      some false
    else
      some true

noncomputable def laws_eqPointS_l1 (a : List Point) (b : List Point) : Int → Option (Int ⊕ (Unit ⊕ Bool))
  | i =>
    if (decide (i < (a.length : Int))) then
      ck (ixOk i a.length) <|
      ck (ixOk i b.length) <|
      (laws_eqPoint (a.getD i.toNat default) (b.getD i.toNat default)).bind fun y_5 =>
      if (!y_5) then
        some (.inr (.inr false))
      else
        some (.inl (IntKind.i64.wrap (i + 1)))
    else
      some (.inr (.inl ()))

/-- laws.eqPointS -/
noncomputable def laws_eqPointS (a : List Point) (b : List Point) : Option Bool :=
  if (!((a.length : Int) == (b.length : Int))) then
    some false
  else
    (whileE (laws_eqPointS_l1 a b) 0).bind fun y_7 =>
    match y_7 with
    | .inl y_7a =>
      some true
    | .inr y_7b =>
      some y_7b

noncomputable def laws_markPointS_l1  : ((List Point) × Int × Int) → Option (((List Point) × Int × Int) ⊕ ((List Point) × Int))
  | (a, k, i) =>
    if (decide (i < (a.length : Int))) then
      ck (ixOk i a.length) <|
      some (.inl ((a.set i.toNat (Point.mk k (IntKind.i64.wrap (k + 1)))), (IntKind.i64.wrap ((IntKind.i64.wrap (k + 1)) + 1)), (IntKind.i64.wrap (i + 1))))
    else
      some (.inr (a, k))

/-- laws.markPointS -/
noncomputable def laws_markPointS (a : List Point) (k : Int) : Option (Int × (List Point)) :=
  (whileE (laws_markPointS_l1) (a, k, 0)).bind fun y_3 =>
  ck (y_3.1.length == a.length) <|
  some (y_3.2, y_3.1)

noncomputable def laws_markByteS_l1  : ((List UInt8) × Int × Int) → Option (((List UInt8) × Int × Int) ⊕ ((List UInt8) × Int))
  | (a, k, i) =>
    if (decide (i < (a.length : Int))) then
      ck (ixOk i a.length) <|
      some (.inl ((a.set i.toNat (toU8 (IntKind.u8.wrap k))), (IntKind.i64.wrap (k + 1)), (IntKind.i64.wrap (i + 1))))
    else
      some (.inr (a, k))

/-- laws.markByteS -/
noncomputable def laws_markByteS (a : List UInt8) (k : Int) : Option (Int × (List UInt8)) :=
  (whileE (laws_markByteS_l1) (a, k, 0)).bind fun y_3 =>
  ck (y_3.1.length == a.length) <|
  some (y_3.2, y_3.1)

noncomputable def laws_heldByteS_l1 (a : List UInt8) : (Int × Int) → Option ((Int × Int) ⊕ (Int ⊕ Int))
  | (k, i) =>
    if (decide (i < (a.length : Int))) then
      ck (ixOk i a.length) <|
      if (!(((a.getD i.toNat default).toNat : Int) == (IntKind.u8.wrap k))) then
        some (.inr (.inr (-1)))
      else
        some (.inl ((IntKind.i64.wrap (k + 1)), (IntKind.i64.wrap (i + 1))))
    else
      some (.inr (.inl k))

/-- laws.heldByteS -/
noncomputable def laws_heldByteS (a : List UInt8) (k : Int) : Option Int :=
  (whileE (laws_heldByteS_l1 a) (k, 0)).bind fun y_4 =>
  match y_4 with
  | .inl y_4a =>
    some y_4a
  | .inr y_4b =>
    some y_4b

/-- laws.FnExactPackCurve -/
noncomputable def laws_FnExactPackCurve (aCurve : List Point) : Option Bool :=
  (laws_szPointS aCurve 1048576).bind fun y_1 =>
  if (decide (y_1 < 0)) then
    some true
  else
    (laws_toPointS aCurve).bind fun y_3 =>
    (spec_PackCurve y_3).bind fun y_4 =>
    (impl_PackCurve y_3).bind fun y_5 =>
    (laws_eqByteS y_5.1 y_4.1).bind fun y_6 =>
    if ((!y_6) || (!(y_5.2 == y_4.2))) then
      some false
    else
      (laws_eqPointS y_3 y_3).bind fun y_8 =>
      if (!y_8) then
        some false
      else
        (laws_markPointS y_3 1).bind fun y_10 =>
        if (((decide (y_10.1 < 0)) || (!y_6)) || (!(y_5.2 == y_4.2))) then
          some false
        else
          (laws_markByteS y_5.1 1).bind fun y_13 =>
          (laws_heldByteS y_13.2 1).bind fun y_14 =>
          if (decide (y_14 < 0)) then
            some false
          else
            if (!(y_14 == y_13.1)) then
              some false
            else
              some true

/-- laws.toStar -/
noncomputable def laws_toStar (a : Star) : Option Star :=
  some a

noncomputable def laws_toStarS_l1 (a : List Star) : ((List Star) × Int) → Option (((List Star) × Int) ⊕ (List Star))
  | (out, i) =>
    if (decide (i < (a.length : Int))) then
      ck (ixOk i a.length) <|
      (laws_toStar (a.getD i.toNat default)).bind fun y_4 =>
      ck (ixOk i out.length) <|
      some (.inl ((out.set i.toNat y_4), (IntKind.i64.wrap (i + 1))))
    else
      some (.inr out)

/-- laws.toStarS -/
noncomputable def laws_toStarS (a : List Star) : Option (List Star) :=
  ck (mkOk (a.length : Int) 48) <|
  (whileE (laws_toStarS_l1 a) ((List.replicate (a.length : Int).toNat (Star.mk [] 0 0 0 0)), 0)).bind fun y_6 =>
  some y_6

/-- laws.toEstimate -/
noncomputable def laws_toEstimate (a : Estimate) : Option Estimate :=
  some a

noncomputable def laws_toEstimateS_l1 (a : List Estimate) : ((List Estimate) × Int) → Option (((List Estimate) × Int) ⊕ (List Estimate))
  | (out, i) =>
    if (decide (i < (a.length : Int))) then
      ck (ixOk i a.length) <|
      (laws_toEstimate (a.getD i.toNat default)).bind fun y_4 =>
      ck (ixOk i out.length) <|
      some (.inl ((out.set i.toNat y_4), (IntKind.i64.wrap (i + 1))))
    else
      some (.inr out)

/-- laws.toEstimateS -/
noncomputable def laws_toEstimateS (a : List Estimate) : Option (List Estimate) :=
  ck (mkOk (a.length : Int) 56) <|
  (whileE (laws_toEstimateS_l1 a) ((List.replicate (a.length : Int).toNat (Estimate.mk 0 [] [] 0 false)), 0)).bind fun y_6 =>
  some y_6

/-- laws.toDesk -/
noncomputable def laws_toDesk (a : Desk) : Option Desk :=
  (laws_toStarS a.Stars).bind fun y_1 =>
  (laws_toEstimateS a.Estimates).bind fun y_2 =>
  some (Desk.mk y_1 y_2 a.Log)

noncomputable def spec_SameStars_l1 (a : List Star) (b : List Star) : Int → Option (Int ⊕ (Unit ⊕ Bool))
  | i =>
    if (decide (i < (a.length : Int))) then
      ck (ixOk i a.length) <|
      ck (ixOk i b.length) <|
      if (!((((a.getD i.toNat default).Name) == ((b.getD i.toNat default).Name)) && ((((a.getD i.toNat default).Ascend) == ((b.getD i.toNat default).Ascend)) && ((((a.getD i.toNat default).Decl) == ((b.getD i.toNat default).Decl)) && ((((a.getD i.toNat default).Bright) == ((b.getD i.toNat default).Bright)) && (((a.getD i.toNat default).Faint) == ((b.getD i.toNat default).Faint))))))) then
        some (.inr (.inr false))
      else
        some (.inl (IntKind.i64.wrap (i + 1)))
    else
      some (.inr (.inl ()))

/-- spec.SameStars -/
noncomputable def spec_SameStars (a : List Star) (b : List Star) : Option Bool :=
  if (!((a.length : Int) == (b.length : Int))) then
    some false
  else
    (whileE (spec_SameStars_l1 a b) 0).bind fun y_6 =>
    match y_6 with
    | .inl y_6a =>
      some true
    | .inr y_6b =>
      some y_6b

noncomputable def spec_SameEstimates_l1 (a : List Estimate) (b : List Estimate) : Int → Option (Int ⊕ (Unit ⊕ Bool))
  | i =>
    if (decide (i < (a.length : Int))) then
      ck (ixOk i a.length) <|
      ck (ixOk i b.length) <|
      if (!((((a.getD i.toNat default).Time) == ((b.getD i.toNat default).Time)) && ((((a.getD i.toNat default).Star) == ((b.getD i.toNat default).Star)) && ((((a.getD i.toNat default).Observer) == ((b.getD i.toNat default).Observer)) && ((((a.getD i.toNat default).Mag) == ((b.getD i.toNat default).Mag)) && (((a.getD i.toNat default).Fainter) == ((b.getD i.toNat default).Fainter))))))) then
        some (.inr (.inr false))
      else
        some (.inl (IntKind.i64.wrap (i + 1)))
    else
      some (.inr (.inl ()))

/-- spec.SameEstimates -/
noncomputable def spec_SameEstimates (a : List Estimate) (b : List Estimate) : Option Bool :=
  if (!((a.length : Int) == (b.length : Int))) then
    some false
  else
    (whileE (spec_SameEstimates_l1 a b) 0).bind fun y_6 =>
    match y_6 with
    | .inl y_6a =>
      some true
    | .inr y_6b =>
      some y_6b

/-- spec.SameDesk -/
noncomputable def spec_SameDesk (a : Desk) (b : Desk) : Option Bool :=
  (spec_SameStars a.Stars b.Stars).bind fun y_1 =>
  ck (!y_1 || (spec_SameEstimates a.Estimates b.Estimates).isSome) <|
  some ((y_1 && ((spec_SameEstimates a.Estimates b.Estimates).getD default)) && (a.Log == b.Log))

/-- laws.eqStar -/
noncomputable def laws_eqStar (a : Star) (b : Star) : Option Bool :=
  if (!(a.Name == b.Name)) then
    some false
  else
    if (!(a.Ascend == b.Ascend)) then
      some false
    else
      if (!(a.Decl == b.Decl)) then
        some false
      else
        if (!(a.Bright == b.Bright)) then
          some false
        else
          if (!(a.Faint == b.Faint)) then
            some false
          else
            some true

noncomputable def laws_eqStarS_l1 (a : List Star) (b : List Star) : Int → Option (Int ⊕ (Unit ⊕ Bool))
  | i =>
    if (decide (i < (a.length : Int))) then
      ck (ixOk i a.length) <|
      ck (ixOk i b.length) <|
      (laws_eqStar (a.getD i.toNat default) (b.getD i.toNat default)).bind fun y_5 =>
      if (!y_5) then
        some (.inr (.inr false))
      else
        some (.inl (IntKind.i64.wrap (i + 1)))
    else
      some (.inr (.inl ()))

/-- laws.eqStarS -/
noncomputable def laws_eqStarS (a : List Star) (b : List Star) : Option Bool :=
  if (!((a.length : Int) == (b.length : Int))) then
    some false
  else
    (whileE (laws_eqStarS_l1 a b) 0).bind fun y_7 =>
    match y_7 with
    | .inl y_7a =>
      some true
    | .inr y_7b =>
      some y_7b

/-- laws.eqEstimate -/
noncomputable def laws_eqEstimate (a : Estimate) (b : Estimate) : Option Bool :=
  if (!(a.Time == b.Time)) then
    some false
  else
    if (!(a.Star == b.Star)) then
      some false
    else
      if (!(a.Observer == b.Observer)) then
        some false
      else
        if (!(a.Mag == b.Mag)) then
          some false
        else
          if (!(a.Fainter == b.Fainter)) then
            some false
          else
            some true

noncomputable def laws_eqEstimateS_l1 (a : List Estimate) (b : List Estimate) : Int → Option (Int ⊕ (Unit ⊕ Bool))
  | i =>
    if (decide (i < (a.length : Int))) then
      ck (ixOk i a.length) <|
      ck (ixOk i b.length) <|
      (laws_eqEstimate (a.getD i.toNat default) (b.getD i.toNat default)).bind fun y_5 =>
      if (!y_5) then
        some (.inr (.inr false))
      else
        some (.inl (IntKind.i64.wrap (i + 1)))
    else
      some (.inr (.inl ()))

/-- laws.eqEstimateS -/
noncomputable def laws_eqEstimateS (a : List Estimate) (b : List Estimate) : Option Bool :=
  if (!((a.length : Int) == (b.length : Int))) then
    some false
  else
    (whileE (laws_eqEstimateS_l1 a b) 0).bind fun y_7 =>
    match y_7 with
    | .inl y_7a =>
      some true
    | .inr y_7b =>
      some y_7b

/-- laws.eqDesk -/
noncomputable def laws_eqDesk (a : Desk) (b : Desk) : Option Bool :=
  (laws_eqStarS a.Stars b.Stars).bind fun y_1 =>
  if (!y_1) then
    some false
  else
    (laws_eqEstimateS a.Estimates b.Estimates).bind fun y_3 =>
    if (!y_3) then
      some false
    else
      if (!(a.Log == b.Log)) then
        some false
      else
        some true

/-- laws.szStar -/
noncomputable def laws_szStar (a : Star) (left_ : Int) : Option Int :=
  if (decide ((IntKind.i64.wrap (left_ - (a.Name.length : Int))) < 0)) then
    some (-1)
  else
    some (IntKind.i64.wrap (left_ - (a.Name.length : Int)))

noncomputable def laws_szStarS_l1 (a : List Star) : (Int × Int) → Option ((Int × Int) ⊕ (Int ⊕ Int))
  | (left_, i) =>
    if (decide (i < (a.length : Int))) then
      ck (ixOk i a.length) <|
      (laws_szStar (a.getD i.toNat default) left_).bind fun y_4 =>
      if (decide (y_4 < 0)) then
        some (.inr (.inr (-1)))
      else
        some (.inl (y_4, (IntKind.i64.wrap (i + 1))))
    else
      some (.inr (.inl left_))

/-- laws.szStarS -/
noncomputable def laws_szStarS (a : List Star) (left_ : Int) : Option Int :=
  if (decide ((IntKind.i64.wrap (left_ - (a.length : Int))) < 0)) then
    some (-1)
  else
    (whileE (laws_szStarS_l1 a) ((IntKind.i64.wrap (left_ - (a.length : Int))), 0)).bind fun y_6 =>
    match y_6 with
    | .inl y_6a =>
      some y_6a
    | .inr y_6b =>
      some y_6b

/-- laws.szEstimate -/
noncomputable def laws_szEstimate (a : Estimate) (left_ : Int) : Option Int :=
  if (decide ((IntKind.i64.wrap (left_ - (a.Star.length : Int))) < 0)) then
    some (-1)
  else
    if (decide ((IntKind.i64.wrap ((IntKind.i64.wrap (left_ - (a.Star.length : Int))) - (a.Observer.length : Int))) < 0)) then
      some (-1)
    else
      some (IntKind.i64.wrap ((IntKind.i64.wrap (left_ - (a.Star.length : Int))) - (a.Observer.length : Int)))

noncomputable def laws_szEstimateS_l1 (a : List Estimate) : (Int × Int) → Option ((Int × Int) ⊕ (Int ⊕ Int))
  | (left_, i) =>
    if (decide (i < (a.length : Int))) then
      ck (ixOk i a.length) <|
      (laws_szEstimate (a.getD i.toNat default) left_).bind fun y_4 =>
      if (decide (y_4 < 0)) then
        some (.inr (.inr (-1)))
      else
        some (.inl (y_4, (IntKind.i64.wrap (i + 1))))
    else
      some (.inr (.inl left_))

/-- laws.szEstimateS -/
noncomputable def laws_szEstimateS (a : List Estimate) (left_ : Int) : Option Int :=
  if (decide ((IntKind.i64.wrap (left_ - (a.length : Int))) < 0)) then
    some (-1)
  else
    (whileE (laws_szEstimateS_l1 a) ((IntKind.i64.wrap (left_ - (a.length : Int))), 0)).bind fun y_6 =>
    match y_6 with
    | .inl y_6a =>
      some y_6a
    | .inr y_6b =>
      some y_6b

/-- laws.szDesk -/
noncomputable def laws_szDesk (a : Desk) (left_ : Int) : Option Int :=
  (laws_szStarS a.Stars left_).bind fun y_1 =>
  if (decide (y_1 < 0)) then
    some (-1)
  else
    (laws_szEstimateS a.Estimates y_1).bind fun y_3 =>
    if (decide (y_3 < 0)) then
      some (-1)
    else
      if (decide ((IntKind.i64.wrap (y_3 - (a.Log.length : Int))) < 0)) then
        some (-1)
      else
        some (IntKind.i64.wrap (y_3 - (a.Log.length : Int)))

noncomputable def slices_Equal_impl_Star_impl_Star_l1 (s1 : List Star) (s2 : List Star) (t12 : Int) : Int → Option (Int ⊕ (Unit ⊕ Bool))
  | t13 =>
    if (decide (t13 < t12)) then
      ck (ixOk t13 s1.length) <|
      ck (ixOk t13 s2.length) <|
      if (!((((s1.getD t13.toNat default).Name) == ((s2.getD t13.toNat default).Name)) && ((((s1.getD t13.toNat default).Ascend) == ((s2.getD t13.toNat default).Ascend)) && ((((s1.getD t13.toNat default).Decl) == ((s2.getD t13.toNat default).Decl)) && ((((s1.getD t13.toNat default).Bright) == ((s2.getD t13.toNat default).Bright)) && (((s1.getD t13.toNat default).Faint) == ((s2.getD t13.toNat default).Faint))))))) then
        some (.inr (.inr false))
      else
        some (.inl (IntKind.i64.wrap (t13 + 1)))
    else
      some (.inr (.inl ()))

/-- slices.Equal[[]impl.Star,impl.Star] -/
noncomputable def slices_Equal_impl_Star_impl_Star (s1 : List Star) (s2 : List Star) : Option Bool :=
  if (!((s1.length : Int) == (s2.length : Int))) then
    some false
  else
    (whileE (slices_Equal_impl_Star_impl_Star_l1 s1 s2 (s1.length : Int)) 0).bind fun y_6 =>
    match y_6 with
    | .inl y_6a =>
      some true
    | .inr y_6b =>
      some y_6b

/-- impl.SameStars -/
noncomputable def impl_SameStars (a : List Star) (b : List Star) : Option Bool :=
  (slices_Equal_impl_Star_impl_Star a b).bind fun y_1 =>
  some y_1

noncomputable def slices_Equal_impl_Estimate_impl_Estimate_l1 (s1 : List Estimate) (s2 : List Estimate) (t12 : Int) : Int → Option (Int ⊕ (Unit ⊕ Bool))
  | t13 =>
    if (decide (t13 < t12)) then
      ck (ixOk t13 s1.length) <|
      ck (ixOk t13 s2.length) <|
      if (!((((s1.getD t13.toNat default).Time) == ((s2.getD t13.toNat default).Time)) && ((((s1.getD t13.toNat default).Star) == ((s2.getD t13.toNat default).Star)) && ((((s1.getD t13.toNat default).Observer) == ((s2.getD t13.toNat default).Observer)) && ((((s1.getD t13.toNat default).Mag) == ((s2.getD t13.toNat default).Mag)) && (((s1.getD t13.toNat default).Fainter) == ((s2.getD t13.toNat default).Fainter))))))) then
        some (.inr (.inr false))
      else
        some (.inl (IntKind.i64.wrap (t13 + 1)))
    else
      some (.inr (.inl ()))

/-- slices.Equal[[]impl.Estimate,impl.Estimate] -/
noncomputable def slices_Equal_impl_Estimate_impl_Estimate (s1 : List Estimate) (s2 : List Estimate) : Option Bool :=
  if (!((s1.length : Int) == (s2.length : Int))) then
    some false
  else
    (whileE (slices_Equal_impl_Estimate_impl_Estimate_l1 s1 s2 (s1.length : Int)) 0).bind fun y_6 =>
    match y_6 with
    | .inl y_6a =>
      some true
    | .inr y_6b =>
      some y_6b

/-- impl.SameEstimates -/
noncomputable def impl_SameEstimates (a : List Estimate) (b : List Estimate) : Option Bool :=
  (slices_Equal_impl_Estimate_impl_Estimate a b).bind fun y_1 =>
  some y_1

/-- impl.SameDesk -/
noncomputable def impl_SameDesk (a : Desk) (b : Desk) : Option Bool :=
  (impl_SameStars a.Stars b.Stars).bind fun y_1 =>
  ck (!y_1 || (impl_SameEstimates a.Estimates b.Estimates).isSome) <|
  some ((y_1 && ((impl_SameEstimates a.Estimates b.Estimates).getD default)) && (a.Log == b.Log))

/-- laws.FnExactSameDesk -/
noncomputable def laws_FnExactSameDesk (aA : Desk) (aB : Desk) : Option Bool :=
  (laws_szDesk aA 1048576).bind fun y_1 =>
  if (decide (y_1 < 0)) then
    some true
  else
    (laws_szDesk aB y_1).bind fun y_3 =>
    if (decide (y_3 < 0)) then
      some true
    else
      (laws_toDesk aA).bind fun y_5 =>
      (laws_toDesk aB).bind fun y_6 =>
      (spec_SameDesk y_5 y_6).bind fun y_7 =>
      (impl_SameDesk y_5 y_6).bind fun y_8 =>
      if (!(y_8 == y_7)) then
        some false
      else
        (laws_eqDesk y_5 y_5).bind fun y_10 =>
        if (!y_10) then
          some false
        else
          (laws_eqDesk y_6 y_6).bind fun y_12 =>
          if (!y_12) then
            some false
          else
            some true

/-- spec.l01Digit -/
noncomputable def spec_l01Digit (c : UInt8) : Option Bool :=
  some ((decide (48 ≤ (c.toNat : Int))) && (decide ((c.toNat : Int) ≤ 57)))

/-- spec.l25Digit -/
noncomputable def spec_l25Digit (c : UInt8) : Option Int :=
  (spec_l01Digit c).bind fun y_1 =>
  if y_1 then
    some (IntKind.i64.wrap (IntKind.u8.wrap ((c.toNat : Int) - 48)))
  else
    if ((decide (97 ≤ (c.toNat : Int))) && (decide ((c.toNat : Int) ≤ 102))) then
      some (IntKind.i64.wrap ((IntKind.i64.wrap (IntKind.u8.wrap ((c.toNat : Int) - 97))) + 10))
    else
      some (-1)

noncomputable def spec_BytesOfHex_l1 (s_ : List UInt8) : ((List UInt8) × Int) → Option (((List UInt8) × Int) ⊕ ((List UInt8) ⊕ ((List UInt8) × Bool)))
  | (out, i) =>
    if (decide (i < (s_.length : Int))) then
      ck (ixOk i s_.length) <|
      (spec_l25Digit (s_.getD i.toNat 0)).bind fun y_5 =>
      ck (ixOk (IntKind.i64.wrap (i + 1)) s_.length) <|
      (spec_l25Digit (s_.getD (IntKind.i64.wrap (i + 1)).toNat 0)).bind fun y_7 =>
      if ((decide (y_5 < 0)) || (decide (y_7 < 0))) then
        some (.inr (.inr (([] : List UInt8), false)))
      else
        ck (appOk (out.length + ([(toU8 (IntKind.u8.wrap (IntKind.i64.wrap ((IntKind.i64.wrap (16 * y_5)) + y_7))))] : List UInt8).length) 1) <|
        some (.inl ((out ++ ([(toU8 (IntKind.u8.wrap (IntKind.i64.wrap ((IntKind.i64.wrap (16 * y_5)) + y_7))))] : List UInt8)), (IntKind.i64.wrap (i + 2))))
    else
      some (.inr (.inl out))

/-- spec.BytesOfHex -/
noncomputable def spec_BytesOfHex (s_ : List UInt8) : Option ((List UInt8) × Bool) :=
  ck (nz 2) <|
  if ((!(((s_.length : Int).tmod 2) == 0)) || (decide (16000 < (s_.length : Int)))) then
    some (([] : List UInt8), false)
  else
    (whileE (spec_BytesOfHex_l1 s_) (([] : List UInt8), 0)).bind fun y_10 =>
    match y_10 with
    | .inl y_10a =>
      some (y_10a, true)
    | .inr y_10b =>
      some (y_10b.1, y_10b.2)


/-- internal/stringslite.IndexByte -/
noncomputable def internal_stringslite_IndexByte (s_ : List UInt8) (c : UInt8) : Option Int :=
  (hIdx s_ c).bind fun y_1 =>
  some y_1

/-- strings.IndexByte -/
noncomputable def strings_IndexByte (s_ : List UInt8) (c : UInt8) : Option Int :=
  (internal_stringslite_IndexByte s_ c).bind fun y_1 =>
  some y_1

noncomputable def impl_BytesOfHex_l1 (s_ : List UInt8) : ((List UInt8) × Int) → Option (((List UInt8) × Int) ⊕ ((List UInt8) ⊕ ((List UInt8) × Bool)))
  | (out, i) =>
    if (decide (i < (s_.length : Int))) then
      ck (ixOk i s_.length) <|
      (strings_IndexByte ([48, 49, 50, 51, 52, 53, 54, 55, 56, 57, 97, 98, 99, 100, 101, 102] : List UInt8) (s_.getD i.toNat 0)).bind fun y_5 =>
      ck (ixOk (IntKind.i64.wrap (i + 1)) s_.length) <|
      (strings_IndexByte ([48, 49, 50, 51, 52, 53, 54, 55, 56, 57, 97, 98, 99, 100, 101, 102] : List UInt8) (s_.getD (IntKind.i64.wrap (i + 1)).toNat 0)).bind fun y_7 =>
      if ((decide (y_5 < 0)) || (decide (y_7 < 0))) then
        some (.inr (.inr (([] : List UInt8), false)))
      else
        ck (appOk (out.length + ([(toU8 (IntKind.u8.wrap (IntKind.i64.wrap ((IntKind.i64.wrap (16 * y_5)) + y_7))))] : List UInt8).length) 1) <|
        some (.inl ((out ++ ([(toU8 (IntKind.u8.wrap (IntKind.i64.wrap ((IntKind.i64.wrap (16 * y_5)) + y_7))))] : List UInt8)), (IntKind.i64.wrap (i + 2))))
    else
      some (.inr (.inl out))

/-- impl.BytesOfHex -/
noncomputable def impl_BytesOfHex (s_ : List UInt8) : Option ((List UInt8) × Bool) :=
  ck (nz 2) <|
  if ((!(((s_.length : Int).tmod 2) == 0)) || (decide (16000 < (s_.length : Int)))) then
    some (([] : List UInt8), false)
  else
    (whileE (impl_BytesOfHex_l1 s_) (([] : List UInt8), 0)).bind fun y_10 =>
    match y_10 with
    | .inl y_10a =>
      some (y_10a, true)
    | .inr y_10b =>
      some (y_10b.1, y_10b.2)

/-- laws.FnExactBytesOfHex -/
noncomputable def laws_FnExactBytesOfHex (aS : List UInt8) : Option Bool :=
  if (decide (1048576 < (aS.length : Int))) then
    some true
  else
    (spec_BytesOfHex aS).bind fun y_2 =>
    (impl_BytesOfHex aS).bind fun y_3 =>
    (laws_eqByteS y_3.1 y_2.1).bind fun y_4 =>
    if ((!y_4) || (!(y_3.2 == y_2.2))) then
      some false
    else
      (laws_markByteS y_3.1 1).bind fun y_6 =>
      (laws_heldByteS y_6.2 1).bind fun y_7 =>
      if (decide (y_7 < 0)) then
        some false
      else
        if (!(y_7 == y_6.1)) then
          some false
        else
          some true

end Go.Proofs.Ytndkifgpbmaicaa
