/- Typed forms of the functions that BY reaches. No condition. -/
import Derived.Test.YtcfjogkgmkagiaaEngSH
namespace Go.Proofs.Ytcfjogkgmkagiaa
open Go Go.RowKit
set_option linter.unusedVariables false

structure L00Src where
  code_ : List UInt8
  at_ : Int
  seed_ : Int
  deriving Inhabited, DecidableEq
def L00Src_av (x : L00Src) : AV := .agg ([.sl 1 (List.map byteAV x.code_), .int .i64 x.at_, .int .u64 x.seed_])

attribute [go_sem] L00Src_av

/-- laws.f6big -/
noncomputable def laws_f6big (code : List UInt8) : Option Bool :=
  some (decide (4096 < (code.length : Int)))

/-- spec.l00From -/
noncomputable def spec_l00From (code : List UInt8) : Option L00Src :=
  some (L00Src.mk code 0 0)

/-- (*spec.l00Src).next -/
noncomputable def spec_l00Src_next (s_ : L00Src) : Option (Int × L00Src) :=
  if (decide (s_.at_ < (s_.code_.length : Int))) then
    ck (ixOk s_.at_ s_.code_.length) <|
    if (decide ((IntKind.i64.wrap (s_.at_ + 1)) ≤ (s_.code_.length : Int))) then
      some (((s_.code_.getD s_.at_.toNat default).toNat : Int), (L00Src.mk s_.code_ (IntKind.i64.wrap (s_.at_ + 1)) (IntKind.u64.wrap ((IntKind.u64.wrap ((IntKind.u64.wrap (s_.seed_ * 6364136223846793005)) + (IntKind.u64.wrap ((s_.code_.getD s_.at_.toNat default).toNat : Int)))) + 1442695040888963407))))
    else
      ck (shOk 40) <|
      some ((IntKind.i64.wrap (IntKind.u64.wrap (BitVec.ofInt (IntKind.bits .u64) ((IntKind.u64.wrap ((IntKind.u64.wrap ((IntKind.u64.wrap (s_.seed_ * 6364136223846793005)) + (IntKind.u64.wrap ((s_.code_.getD s_.at_.toNat default).toNat : Int)))) + 1442695040888963407)).fdiv (2 ^ (min 40 64))) &&& BitVec.ofInt (IntKind.bits .u64) 255).toNat)), (L00Src.mk s_.code_ (IntKind.i64.wrap (s_.at_ + 1)) (IntKind.u64.wrap ((IntKind.u64.wrap ((IntKind.u64.wrap (s_.seed_ * 6364136223846793005)) + (IntKind.u64.wrap ((s_.code_.getD s_.at_.toNat default).toNat : Int)))) + 1442695040888963407))))
  else
    if (decide ((IntKind.i64.wrap (s_.at_ + 1)) ≤ (s_.code_.length : Int))) then
      some (0, (L00Src.mk s_.code_ (IntKind.i64.wrap (s_.at_ + 1)) (IntKind.u64.wrap ((IntKind.u64.wrap ((IntKind.u64.wrap (s_.seed_ * 6364136223846793005)) + (IntKind.u64.wrap 0))) + 1442695040888963407))))
    else
      ck (shOk 40) <|
      some ((IntKind.i64.wrap (IntKind.u64.wrap (BitVec.ofInt (IntKind.bits .u64) ((IntKind.u64.wrap ((IntKind.u64.wrap ((IntKind.u64.wrap (s_.seed_ * 6364136223846793005)) + (IntKind.u64.wrap 0))) + 1442695040888963407)).fdiv (2 ^ (min 40 64))) &&& BitVec.ofInt (IntKind.bits .u64) 255).toNat)), (L00Src.mk s_.code_ (IntKind.i64.wrap (s_.at_ + 1)) (IntKind.u64.wrap ((IntKind.u64.wrap ((IntKind.u64.wrap (s_.seed_ * 6364136223846793005)) + (IntKind.u64.wrap 0))) + 1442695040888963407))))

/-- (*spec.l00Src).pick -/
noncomputable def spec_l00Src_pick (s_ : L00Src) (n : Int) : Option (Int × L00Src) :=
  if (decide (n ≤ 1)) then
    some (0, s_)
  else
    (spec_l00Src_next s_).bind fun y_2 =>
    if (decide (200 < n)) then
      (spec_l00Src_next y_2.2).bind fun y_4 =>
      ck (nz n) <|
      some (((IntKind.i64.wrap ((IntKind.i64.wrap (y_2.1 * 256)) + y_4.1)).tmod n), y_4.2)
    else
      ck (nz n) <|
      some ((y_2.1.tmod n), y_2.2)

/-- (*spec.l00Src).one -/
noncomputable def spec_l00Src_one (s_ : L00Src) (n : Int) : Option (Bool × L00Src) :=
  (spec_l00Src_pick s_ n).bind fun y_1 =>
  some ((y_1.1 == 0), y_1.2)

/-- (*spec.l00Src).among -/
noncomputable def spec_l00Src_among (s_ : L00Src) (list : List Int) : Option (Int × L00Src) :=
  (spec_l00Src_pick s_ (list.length : Int)).bind fun y_1 =>
  ck (ixOk y_1.1 list.length) <|
  some ((list.getD y_1.1.toNat default), y_1.2)

/-- spec.DrawNumberBytes -/
noncomputable def spec_DrawNumberBytes (code : List UInt8) : Option Int :=
  (spec_l00From code).bind fun y_1 =>
  (spec_l00Src_one y_1 8).bind fun y_2 =>
  if y_2.1 then
    (spec_l00Src_among y_2.2 ([(-1), 0, 127, 128, 16383, 16384, (-9223372036854775808), 9223372036854775807] : List Int)).bind fun y_4 =>
    some y_4.1
  else
    (spec_l00Src_pick y_2.2 1000).bind fun y_5 =>
    (spec_l00Src_pick y_5.2 1000).bind fun y_6 =>
    some (IntKind.i64.wrap (y_5.1 * (IntKind.i64.wrap (1 + y_6.1))))

noncomputable def impl_appendNumber_l1  : ((List UInt8) × Int) → Option (((List UInt8) × Int) ⊕ ((List UInt8) × Int))
  | (b, n) =>
    if (decide (128 ≤ n)) then
      ck (nz 128) <|
      ck (appOk (b.length + ([(toU8 (IntKind.u8.wrap (IntKind.i64.wrap ((n.tmod 128) + 128))))] : List UInt8).length) 1) <|
      some (.inl ((b ++ ([(toU8 (IntKind.u8.wrap (IntKind.i64.wrap ((n.tmod 128) + 128))))] : List UInt8)), (IntKind.i64.wrap (n.tdiv 128))))
    else
      some (.inr (b, n))

/-- impl.appendNumber -/
noncomputable def impl_appendNumber (b : List UInt8) (n : Int) : Option (List UInt8) :=
  (whileE (impl_appendNumber_l1) (b, n)).bind fun y_4 =>
  ck (appOk (y_4.1.length + ([(toU8 (IntKind.u8.wrap y_4.2))] : List UInt8).length) 1) <|
  some (y_4.1 ++ ([(toU8 (IntKind.u8.wrap y_4.2))] : List UInt8))

/-- impl.NumberBytes -/
noncomputable def impl_NumberBytes (n : Int) : Option ((List UInt8) × Int) :=
  if (decide (n < 0)) then
    some (([] : List UInt8), 2)
  else
    (impl_appendNumber ([] : List UInt8) n).bind fun y_2 =>
    some (y_2, 0)

noncomputable def spec_l25Number_l1  : (Int × (List UInt8)) → Option ((Int × (List UInt8)) ⊕ (Int × (List UInt8)))
  | (n, out) =>
    if (decide (128 ≤ n)) then
      ck (nz 128) <|
      ck (appOk (out.length + ([(toU8 (IntKind.u8.wrap (IntKind.i64.wrap ((n.tmod 128) + 128))))] : List UInt8).length) 1) <|
      some (.inl ((IntKind.i64.wrap (n.tdiv 128)), (out ++ ([(toU8 (IntKind.u8.wrap (IntKind.i64.wrap ((n.tmod 128) + 128))))] : List UInt8))))
    else
      some (.inr (n, out))

/-- spec.l25Number -/
noncomputable def spec_l25Number (n : Int) : Option (List UInt8) :=
  (whileE (spec_l25Number_l1) (n, ([] : List UInt8))).bind fun y_4 =>
  ck (appOk (y_4.2.length + ([(toU8 (IntKind.u8.wrap y_4.1))] : List UInt8).length) 1) <|
  some (y_4.2 ++ ([(toU8 (IntKind.u8.wrap y_4.1))] : List UInt8))

/-- spec.NumberBytes -/
noncomputable def spec_NumberBytes (n : Int) : Option ((List UInt8) × Int) :=
  if (decide (n < 0)) then
    some (([] : List UInt8), 2)
  else
    (spec_l25Number n).bind fun y_2 =>
    some (y_2, 0)

noncomputable def spec_l25Bytes_l1  : (L00Src × (List UInt8) × Int) → Option ((L00Src × (List UInt8) × Int) ⊕ (L00Src × (List UInt8)))
  | (s_, out, k) =>
    if (decide (0 < k)) then
      (spec_l00Src_pick s_ 256).bind fun y_3 =>
      ck (appOk (out.length + ([(toU8 (IntKind.u8.wrap y_3.1))] : List UInt8).length) 1) <|
      some (.inl (y_3.2, (out ++ ([(toU8 (IntKind.u8.wrap y_3.1))] : List UInt8)), (IntKind.i64.wrap (k - 1))))
    else
      some (.inr (s_, out))

/-- spec.l25Bytes -/
noncomputable def spec_l25Bytes (s_ : L00Src) : Option ((List UInt8) × L00Src) :=
  (spec_l00Src_pick s_ 12).bind fun y_1 =>
  (whileE (spec_l25Bytes_l1) (y_1.2, ([] : List UInt8), y_1.1)).bind fun y_5 =>
  some (y_5.2, y_5.1)

/-- spec.DrawReadNumber -/
noncomputable def spec_DrawReadNumber (code : List UInt8) : Option (List UInt8) :=
  (spec_l00From code).bind fun y_1 =>
  (spec_l00Src_pick y_1 3).bind fun y_2 =>
  if (y_2.1 == 0) then
    (spec_l25Bytes y_2.2).bind fun y_4 =>
    some y_4.1
  else
    if (y_2.1 == 1) then
      (spec_l00Src_pick y_2.2 256).bind fun y_6 =>
      some ([(255 : UInt8), (255 : UInt8), (255 : UInt8), (255 : UInt8), (255 : UInt8), (255 : UInt8), (255 : UInt8), (255 : UInt8), (toU8 (IntKind.u8.wrap y_6.1))] : List UInt8)
    else
      (spec_l00Src_pick y_2.2 100000).bind fun y_7 =>
      (spec_l25Number y_7.1).bind fun y_8 =>
      (spec_l25Bytes y_7.2).bind fun y_9 =>
      ck (appOk (y_8.length + y_9.1.length) 1) <|
      some (y_8 ++ y_9.1)

noncomputable def impl_ReadNumber_l1 (b : List UInt8) : (Int × Int) → Option ((Int × Int) ⊕ (Unit ⊕ (Int × Int × Bool)))
  | (n, i) =>
    if ((decide (i < (b.length : Int))) && (decide (i < 9))) then
      ck (ixOk i b.length) <|
      ck (shOk (IntKind.i64.wrap (7 * i))) <|
      if (decide (((b.getD i.toNat default).toNat : Int) < 128)) then
        if ((((b.getD i.toNat default).toNat : Int) == 0) && (decide (0 < i))) then
          some (.inr (.inr (0, 0, false)))
        else
          some (.inr (.inr ((IntKind.i64.wrap (BitVec.ofInt (IntKind.bits .i64) n ||| BitVec.ofInt (IntKind.bits .i64) (IntKind.i64.wrap ((IntKind.i64.wrap (IntKind.u8.wrap (BitVec.ofInt (IntKind.bits .u8) ((b.getD i.toNat default).toNat : Int) &&& BitVec.ofInt (IntKind.bits .u8) 127).toNat)) * 2 ^ (min (IntKind.i64.wrap (7 * i)).toNat 64)))).toNat), (IntKind.i64.wrap (i + 1)), true)))
      else
        some (.inl ((IntKind.i64.wrap (BitVec.ofInt (IntKind.bits .i64) n ||| BitVec.ofInt (IntKind.bits .i64) (IntKind.i64.wrap ((IntKind.i64.wrap (IntKind.u8.wrap (BitVec.ofInt (IntKind.bits .u8) ((b.getD i.toNat default).toNat : Int) &&& BitVec.ofInt (IntKind.bits .u8) 127).toNat)) * 2 ^ (min (IntKind.i64.wrap (7 * i)).toNat 64)))).toNat), (IntKind.i64.wrap (i + 1))))
    else
      some (.inr (.inl ()))

/-- impl.ReadNumber -/
noncomputable def impl_ReadNumber (b : List UInt8) : Option (Int × Int × Bool) :=
  (whileE (impl_ReadNumber_l1 b) (0, 0)).bind fun y_6 =>
  match y_6 with
  | .inl y_6a =>
    some (0, 0, false)
  | .inr y_6b =>
    some (y_6b.1, y_6b.2.1, y_6b.2.2)

noncomputable def spec_l25Read_l1 (b : List UInt8) : (Int × Int) → Option ((Int × Int) ⊕ (Unit ⊕ (Int × Int × Bool)))
  | (n, i) =>
    if ((decide (i < (b.length : Int))) && (decide (i < 9))) then
      ck (ixOk i b.length) <|
      ck (shOk (IntKind.u64.wrap (IntKind.i64.wrap (7 * i)))) <|
      if (decide (((b.getD i.toNat default).toNat : Int) < 128)) then
        if ((decide (0 < i)) && (((b.getD i.toNat default).toNat : Int) == 0)) then
          some (.inr (.inr (0, 0, false)))
        else
          some (.inr (.inr ((IntKind.i64.wrap (n + (IntKind.i64.wrap ((IntKind.i64.wrap (IntKind.u8.wrap (BitVec.ofInt (IntKind.bits .u8) ((b.getD i.toNat default).toNat : Int) &&& BitVec.ofInt (IntKind.bits .u8) 127).toNat)) * 2 ^ (min (IntKind.u64.wrap (IntKind.i64.wrap (7 * i))).toNat 64))))), (IntKind.i64.wrap (i + 1)), true)))
      else
        some (.inl ((IntKind.i64.wrap (n + (IntKind.i64.wrap ((IntKind.i64.wrap (IntKind.u8.wrap (BitVec.ofInt (IntKind.bits .u8) ((b.getD i.toNat default).toNat : Int) &&& BitVec.ofInt (IntKind.bits .u8) 127).toNat)) * 2 ^ (min (IntKind.u64.wrap (IntKind.i64.wrap (7 * i))).toNat 64))))), (IntKind.i64.wrap (i + 1))))
    else
      some (.inr (.inl ()))

/-- spec.l25Read -/
noncomputable def spec_l25Read (b : List UInt8) : Option (Int × Int × Bool) :=
  (whileE (spec_l25Read_l1 b) (0, 0)).bind fun y_6 =>
  match y_6 with
  | .inl y_6a =>
    some (0, 0, false)
  | .inr y_6b =>
    some (y_6b.1, y_6b.2.1, y_6b.2.2)

/-- spec.ReadNumber -/
noncomputable def spec_ReadNumber (b : List UInt8) : Option (Int × Int × Bool) :=
  (spec_l25Read b).bind fun y_1 =>
  some (y_1.1, y_1.2.1, y_1.2.2)

/-- spec.DrawFoldSign -/
noncomputable def spec_DrawFoldSign (code : List UInt8) : Option Int :=
  (spec_l00From code).bind fun y_1 =>
  (spec_l00Src_one y_1 8).bind fun y_2 =>
  if y_2.1 then
    (spec_l00Src_among y_2.2 ([(-1000000000000000001), (-1000000000000000000), 0, 1000000000000000000, 1000000000000000001, (-9223372036854775808)] : List Int)).bind fun y_4 =>
    some y_4.1
  else
    (spec_l00Src_pick y_2.2 2001).bind fun y_5 =>
    some (IntKind.i64.wrap (y_5.1 - 1000))

/-- impl.in -/
noncomputable def impl_in (n : Int) (low : Int) (high : Int) : Option Bool :=
  some ((decide (low ≤ n)) && (decide (n ≤ high)))

/-- impl.fold -/
noncomputable def impl_fold (n : Int) : Option Int :=
  if (decide (n < 0)) then
    some (IntKind.i64.wrap ((IntKind.i64.wrap ((-2) * n)) - 1))
  else
    some (IntKind.i64.wrap (2 * n))

/-- impl.FoldSign -/
noncomputable def impl_FoldSign (n : Int) : Option (Int × Int) :=
  (impl_in n (-1000000000000000000) 1000000000000000000).bind fun y_1 =>
  if (!y_1) then
    some (0, 2)
  else
    (impl_fold n).bind fun y_3 =>
    some (y_3, 0)

/-- spec.l00In -/
noncomputable def spec_l00In (n : Int) (low : Int) (high : Int) : Option Bool :=
  some ((decide (low ≤ n)) && (decide (n ≤ high)))

/-- spec.l25Fold -/
noncomputable def spec_l25Fold (n : Int) : Option Int :=
  if (decide (n < 0)) then
    some (IntKind.i64.wrap ((IntKind.i64.wrap ((-2) * n)) - 1))
  else
    some (IntKind.i64.wrap (2 * n))

/-- spec.FoldSign -/
noncomputable def spec_FoldSign (n : Int) : Option (Int × Int) :=
  (spec_l00In n (-1000000000000000000) 1000000000000000000).bind fun y_1 =>
  if (!y_1) then
    some (0, 2)
  else
    (spec_l25Fold n).bind fun y_3 =>
    some (y_3, 0)

/-- spec.DrawUnfoldSign -/
noncomputable def spec_DrawUnfoldSign (code : List UInt8) : Option Int :=
  (spec_l00From code).bind fun y_1 =>
  (spec_l00Src_one y_1 8).bind fun y_2 =>
  if y_2.1 then
    (spec_l00Src_among y_2.2 ([(-1), 0, 1, 2000000000000000000, 2000000000000000001, 9223372036854775807] : List Int)).bind fun y_4 =>
    some y_4.1
  else
    (spec_l00Src_pick y_2.2 2001).bind fun y_5 =>
    some y_5.1

/-- impl.unfold -/
noncomputable def impl_unfold (n : Int) : Option Int :=
  ck (nz 2) <|
  if ((n.tmod 2) == 1) then
    some (IntKind.i64.wrap ((IntKind.i64.wrap (0 - (IntKind.i64.wrap (n + 1)))).tdiv 2))
  else
    some (IntKind.i64.wrap (n.tdiv 2))

/-- impl.UnfoldSign -/
noncomputable def impl_UnfoldSign (n : Int) : Option (Int × Int) :=
  (impl_in n 0 2000000000000000000).bind fun y_1 =>
  if (!y_1) then
    some (0, 2)
  else
    (impl_unfold n).bind fun y_3 =>
    some (y_3, 0)

/-- spec.l25Unfold -/
noncomputable def spec_l25Unfold (n : Int) : Option Int :=
  ck (nz 2) <|
  if ((n.tmod 2) == 1) then
    some (IntKind.i64.wrap ((IntKind.i64.wrap (0 - (IntKind.i64.wrap (n + 1)))).tdiv 2))
  else
    some (IntKind.i64.wrap (n.tdiv 2))

/-- spec.UnfoldSign -/
noncomputable def spec_UnfoldSign (n : Int) : Option (Int × Int) :=
  (spec_l00In n 0 2000000000000000000).bind fun y_1 =>
  if (!y_1) then
    some (0, 2)
  else
    (spec_l25Unfold n).bind fun y_3 =>
    some (y_3, 0)

/-- spec.DrawHexOf -/
noncomputable def spec_DrawHexOf (code : List UInt8) : Option (List UInt8) :=
  (spec_l00From code).bind fun y_1 =>
  (spec_l00Src_one y_1 24).bind fun y_2 =>
  if y_2.1 then
    (spec_l00Src_pick y_2.2 2).bind fun y_4 =>
    ck (mkOk (IntKind.i64.wrap (8000 + y_4.1)) 1) <|
    some (List.replicate (IntKind.i64.wrap (8000 + y_4.1)).toNat 0)
  else
    (spec_l25Bytes y_2.2).bind fun y_6 =>
    some y_6.1

noncomputable def impl_HexOf_l1 (t11 : List UInt8) (t12 : Int) : ((List UInt8) × Int) → Option (((List UInt8) × Int) ⊕ (List UInt8))
  | (out, t13) =>
    if (decide (t13 < t12)) then
      ck (ixOk t13 t11.length) <|
      ck (nz 16) <|
      ck (ixOk (IntKind.u8.wrap (((t11.getD t13.toNat default).toNat : Int).tdiv 16)) (([48, 49, 50, 51, 52, 53, 54, 55, 56, 57, 97, 98, 99, 100, 101, 102] : List UInt8).length)) <|
      ck (ixOk (((t11.getD t13.toNat default).toNat : Int).tmod 16) (([48, 49, 50, 51, 52, 53, 54, 55, 56, 57, 97, 98, 99, 100, 101, 102] : List UInt8).length)) <|
      ck (appOk (out.length + ([(([48, 49, 50, 51, 52, 53, 54, 55, 56, 57, 97, 98, 99, 100, 101, 102] : List UInt8).getD (IntKind.u8.wrap (((t11.getD t13.toNat default).toNat : Int).tdiv 16)).toNat 0), (([48, 49, 50, 51, 52, 53, 54, 55, 56, 57, 97, 98, 99, 100, 101, 102] : List UInt8).getD (((t11.getD t13.toNat default).toNat : Int).tmod 16).toNat 0)] : List UInt8).length) 1) <|
      some (.inl ((out ++ ([(([48, 49, 50, 51, 52, 53, 54, 55, 56, 57, 97, 98, 99, 100, 101, 102] : List UInt8).getD (IntKind.u8.wrap (((t11.getD t13.toNat default).toNat : Int).tdiv 16)).toNat 0), (([48, 49, 50, 51, 52, 53, 54, 55, 56, 57, 97, 98, 99, 100, 101, 102] : List UInt8).getD (((t11.getD t13.toNat default).toNat : Int).tmod 16).toNat 0)] : List UInt8)), (IntKind.i64.wrap (t13 + 1))))
    else
      some (.inr out)

/-- impl.HexOf -/
noncomputable def impl_HexOf (b : List UInt8) : Option ((List UInt8) × Int) :=
  if (decide (8000 < (b.length : Int))) then
    some (([] : List UInt8), 5)
  else
    (whileE (impl_HexOf_l1 b (b.length : Int)) (([] : List UInt8), 0)).bind fun y_8 =>
    some (y_8, 0)

noncomputable def spec_HexOf_l1 (b : List UInt8) : ((List UInt8) × Int) → Option (((List UInt8) × Int) ⊕ (List UInt8))
  | (out, i) =>
    if (decide (i < (b.length : Int))) then
      ck (ixOk i b.length) <|
      ck (nz 16) <|
      ck (ixOk (IntKind.u8.wrap (((b.getD i.toNat default).toNat : Int).tdiv 16)) (([48, 49, 50, 51, 52, 53, 54, 55, 56, 57, 97, 98, 99, 100, 101, 102] : List UInt8).length)) <|
      ck (appOk (out.length + ([(([48, 49, 50, 51, 52, 53, 54, 55, 56, 57, 97, 98, 99, 100, 101, 102] : List UInt8).getD (IntKind.u8.wrap (((b.getD i.toNat default).toNat : Int).tdiv 16)).toNat 0)] : List UInt8).length) 1) <|
      ck (ixOk (((b.getD i.toNat default).toNat : Int).tmod 16) (([48, 49, 50, 51, 52, 53, 54, 55, 56, 57, 97, 98, 99, 100, 101, 102] : List UInt8).length)) <|
      ck (appOk ((out ++ ([(([48, 49, 50, 51, 52, 53, 54, 55, 56, 57, 97, 98, 99, 100, 101, 102] : List UInt8).getD (IntKind.u8.wrap (((b.getD i.toNat default).toNat : Int).tdiv 16)).toNat 0)] : List UInt8)).length + ([(([48, 49, 50, 51, 52, 53, 54, 55, 56, 57, 97, 98, 99, 100, 101, 102] : List UInt8).getD (((b.getD i.toNat default).toNat : Int).tmod 16).toNat 0)] : List UInt8).length) 1) <|
      some (.inl (((out ++ ([(([48, 49, 50, 51, 52, 53, 54, 55, 56, 57, 97, 98, 99, 100, 101, 102] : List UInt8).getD (IntKind.u8.wrap (((b.getD i.toNat default).toNat : Int).tdiv 16)).toNat 0)] : List UInt8)) ++ ([(([48, 49, 50, 51, 52, 53, 54, 55, 56, 57, 97, 98, 99, 100, 101, 102] : List UInt8).getD (((b.getD i.toNat default).toNat : Int).tmod 16).toNat 0)] : List UInt8)), (IntKind.i64.wrap (i + 1))))
    else
      some (.inr out)

/-- spec.HexOf -/
noncomputable def spec_HexOf (b : List UInt8) : Option ((List UInt8) × Int) :=
  if (decide (8000 < (b.length : Int))) then
    some (([] : List UInt8), 5)
  else
    (whileE (spec_HexOf_l1 b) (([] : List UInt8), 0)).bind fun y_9 =>
    some (y_9, 0)

/-- (*spec.l00Src).text -/
noncomputable def spec_l00Src_text (s_ : L00Src) (list : List (List UInt8)) : Option ((List UInt8) × L00Src) :=
  (spec_l00Src_pick s_ (list.length : Int)).bind fun y_1 =>
  ck (ixOk y_1.1 list.length) <|
  some ((list.getD y_1.1.toNat default), y_1.2)

/-- spec.l01Spoil -/
noncomputable def spec_l01Spoil (s_ : L00Src) (t : List UInt8) : Option ((List UInt8) × L00Src) :=
  (spec_l00Src_pick s_ 5).bind fun y_1 =>
  if (y_1.1 == 0) then
    (spec_l00Src_pick y_1.2 (IntKind.i64.wrap ((t.length : Int) + 1))).bind fun y_3 =>
    ck (cutOk 0 y_3.1 t.length) <|
    (spec_l00Src_text y_3.2 ([([32] : List UInt8), ([48] : List UInt8), ([45] : List UInt8), ([120] : List UInt8), ([49] : List UInt8), ([57] : List UInt8), ([46] : List UInt8)] : List (List UInt8))).bind fun y_5 =>
    ck (catOk (cut t 0 y_3.1).length y_5.1.length) <|
    ck (cutOk y_3.1 (t.length : Int) t.length) <|
    ck (catOk ((cut t 0 y_3.1) ++ y_5.1).length (cut t y_3.1 (t.length : Int)).length) <|
    some ((((cut t 0 y_3.1) ++ y_5.1) ++ (cut t y_3.1 (t.length : Int))), y_5.2)
  else
    if (y_1.1 == 1) then
      if (!(t == ([] : List UInt8))) then
        (spec_l00Src_pick y_1.2 (t.length : Int)).bind fun y_11 =>
        ck (cutOk 0 y_11.1 t.length) <|
        ck (cutOk (IntKind.i64.wrap (y_11.1 + 1)) (t.length : Int) t.length) <|
        ck (catOk (cut t 0 y_11.1).length (cut t (IntKind.i64.wrap (y_11.1 + 1)) (t.length : Int)).length) <|
        some (((cut t 0 y_11.1) ++ (cut t (IntKind.i64.wrap (y_11.1 + 1)) (t.length : Int))), y_11.2)
      else
        some (t, y_1.2)
    else
      some (t, y_1.2)

/-- spec.DrawBytesOfHex -/
noncomputable def spec_DrawBytesOfHex (code : List UInt8) : Option (List UInt8) :=
  (spec_l00From code).bind fun y_1 =>
  (spec_l25Bytes y_1).bind fun y_2 =>
  (spec_HexOf y_2.1).bind fun y_3 =>
  (spec_l00Src_one y_2.2 3).bind fun y_4 =>
  if y_4.1 then
    (spec_l01Spoil y_4.2 y_3.1).bind fun y_6 =>
    some y_6.1
  else
    (spec_l00Src_one y_4.2 24).bind fun y_7 =>
    if y_7.1 then
      ck (mkOk 8000 1) <|
      (spec_HexOf (List.replicate 8000 0)).bind fun y_10 =>
      (spec_l00Src_text y_7.2 ([([] : List UInt8), ([48, 48] : List UInt8)] : List (List UInt8))).bind fun y_11 =>
      ck (catOk y_10.1.length y_11.1.length) <|
      some (y_10.1 ++ y_11.1)
    else
      some y_3.1


/-- internal/stringslite.IndexByte -/
noncomputable def internal_stringslite_IndexByte (s_ : List UInt8) (c : UInt8) : Option Int :=
  (hIdx s_ c).bind fun y_1 =>
  some y_1

/-- strings.IndexByte -/
noncomputable def strings_IndexByte (s_ : List UInt8) (c : UInt8) : Option Int :=
  (internal_stringslite_IndexByte s_ c).bind fun y_1 =>
  some y_1

noncomputable def impl_BytesOfHex_l1 (s_ : List UInt8) : ((List UInt8) × Int) → Option (((List UInt8) × Int) ⊕ ((List UInt8) ⊕ ((List UInt8) × Bool)))
  | (out, i) =>
    if (decide (i < (s_.length : Int))) then
      ck (ixOk i s_.length) <|
      (strings_IndexByte ([48, 49, 50, 51, 52, 53, 54, 55, 56, 57, 97, 98, 99, 100, 101, 102] : List UInt8) (s_.getD i.toNat 0)).bind fun y_5 =>
      ck (ixOk (IntKind.i64.wrap (i + 1)) s_.length) <|
      (strings_IndexByte ([48, 49, 50, 51, 52, 53, 54, 55, 56, 57, 97, 98, 99, 100, 101, 102] : List UInt8) (s_.getD (IntKind.i64.wrap (i + 1)).toNat 0)).bind fun y_7 =>
      if ((decide (y_5 < 0)) || (decide (y_7 < 0))) then
        some (.inr (.inr (([] : List UInt8), false)))
      else
        ck (appOk (out.length + ([(toU8 (IntKind.u8.wrap (IntKind.i64.wrap ((IntKind.i64.wrap (16 * y_5)) + y_7))))] : List UInt8).length) 1) <|
        some (.inl ((out ++ ([(toU8 (IntKind.u8.wrap (IntKind.i64.wrap ((IntKind.i64.wrap (16 * y_5)) + y_7))))] : List UInt8)), (IntKind.i64.wrap (i + 2))))
    else
      some (.inr (.inl out))

/-- impl.BytesOfHex -/
noncomputable def impl_BytesOfHex (s_ : List UInt8) : Option ((List UInt8) × Bool) :=
  ck (nz 2) <|
  if ((!(((s_.length : Int).tmod 2) == 0)) || (decide (16000 < (s_.length : Int)))) then
    some (([] : List UInt8), false)
  else
    (whileE (impl_BytesOfHex_l1 s_) (([] : List UInt8), 0)).bind fun y_10 =>
    match y_10 with
    | .inl y_10a =>
      some (y_10a, true)
    | .inr y_10b =>
      some (y_10b.1, y_10b.2)

/-- spec.l01Digit -/
noncomputable def spec_l01Digit (c : UInt8) : Option Bool :=
  some ((decide (48 ≤ (c.toNat : Int))) && (decide ((c.toNat : Int) ≤ 57)))

/-- spec.l25Digit -/
noncomputable def spec_l25Digit (c : UInt8) : Option Int :=
  (spec_l01Digit c).bind fun y_1 =>
  if y_1 then
    some (IntKind.i64.wrap (IntKind.u8.wrap ((c.toNat : Int) - 48)))
  else
    if ((decide (97 ≤ (c.toNat : Int))) && (decide ((c.toNat : Int) ≤ 102))) then
      some (IntKind.i64.wrap ((IntKind.i64.wrap (IntKind.u8.wrap ((c.toNat : Int) - 97))) + 10))
    else
      some (-1)

noncomputable def spec_BytesOfHex_l1 (s_ : List UInt8) : ((List UInt8) × Int) → Option (((List UInt8) × Int) ⊕ ((List UInt8) ⊕ ((List UInt8) × Bool)))
  | (out, i) =>
    if (decide (i < (s_.length : Int))) then
      ck (ixOk i s_.length) <|
      (spec_l25Digit (s_.getD i.toNat 0)).bind fun y_5 =>
      ck (ixOk (IntKind.i64.wrap (i + 1)) s_.length) <|
      (spec_l25Digit (s_.getD (IntKind.i64.wrap (i + 1)).toNat 0)).bind fun y_7 =>
      if ((decide (y_5 < 0)) || (decide (y_7 < 0))) then
        some (.inr (.inr (([] : List UInt8), false)))
      else
        ck (appOk (out.length + ([(toU8 (IntKind.u8.wrap (IntKind.i64.wrap ((IntKind.i64.wrap (16 * y_5)) + y_7))))] : List UInt8).length) 1) <|
        some (.inl ((out ++ ([(toU8 (IntKind.u8.wrap (IntKind.i64.wrap ((IntKind.i64.wrap (16 * y_5)) + y_7))))] : List UInt8)), (IntKind.i64.wrap (i + 2))))
    else
      some (.inr (.inl out))

/-- spec.BytesOfHex -/
noncomputable def spec_BytesOfHex (s_ : List UInt8) : Option ((List UInt8) × Bool) :=
  ck (nz 2) <|
  if ((!(((s_.length : Int).tmod 2) == 0)) || (decide (16000 < (s_.length : Int)))) then
    some (([] : List UInt8), false)
  else
    (whileE (spec_BytesOfHex_l1 s_) (([] : List UInt8), 0)).bind fun y_10 =>
    match y_10 with
    | .inl y_10a =>
      some (y_10a, true)
    | .inr y_10b =>
      some (y_10b.1, y_10b.2)

/-- spec.DrawSumOfBytes -/
noncomputable def spec_DrawSumOfBytes (code : List UInt8) : Option (List UInt8) :=
  (spec_l00From code).bind fun y_1 =>
  (spec_l25Bytes y_1).bind fun y_2 =>
  some y_2.1

noncomputable def impl_SumOfBytes_l1 (t7 : List UInt8) (t8 : Int) : (Int × Int × Int) → Option ((Int × Int × Int) ⊕ (Int × Int))
  | (s_, t, t9) =>
    if (decide (t9 < t8)) then
      ck (ixOk t9 t7.length) <|
      ck (nz 251) <|
      some (.inl (((IntKind.i64.wrap (s_ + ((t7.getD t9.toNat default).toNat : Int))).tmod 251), ((IntKind.i64.wrap (t + ((IntKind.i64.wrap (s_ + ((t7.getD t9.toNat default).toNat : Int))).tmod 251))).tmod 251), (IntKind.i64.wrap (t9 + 1))))
    else
      some (.inr (s_, t))

/-- impl.SumOfBytes -/
noncomputable def impl_SumOfBytes (b : List UInt8) : Option Int :=
  (whileE (impl_SumOfBytes_l1 b (b.length : Int)) (1, 0, 0)).bind fun y_4 =>
  some (IntKind.i64.wrap ((IntKind.i64.wrap (251 * y_4.2)) + y_4.1))

noncomputable def spec_l25Sum_l1 (b : List UInt8) : (Int × Int × Int) → Option ((Int × Int × Int) ⊕ (Int × Int))
  | (sum, all, i) =>
    if (decide (i < (b.length : Int))) then
      ck (ixOk i b.length) <|
      ck (nz 251) <|
      some (.inl (((IntKind.i64.wrap (sum + ((b.getD i.toNat default).toNat : Int))).tmod 251), ((IntKind.i64.wrap (all + ((IntKind.i64.wrap (sum + ((b.getD i.toNat default).toNat : Int))).tmod 251))).tmod 251), (IntKind.i64.wrap (i + 1))))
    else
      some (.inr (sum, all))

/-- spec.l25Sum -/
noncomputable def spec_l25Sum (b : List UInt8) : Option Int :=
  (whileE (spec_l25Sum_l1 b) (1, 0, 0)).bind fun y_4 =>
  some (IntKind.i64.wrap ((IntKind.i64.wrap (251 * y_4.2)) + y_4.1))

/-- spec.SumOfBytes -/
noncomputable def spec_SumOfBytes (b : List UInt8) : Option Int :=
  (spec_l25Sum b).bind fun y_1 =>
  some y_1

/-- laws.FnBytes -/
noncomputable def laws_FnBytes (code : List UInt8) : Option Bool :=
  (laws_f6big code).bind fun y_1 =>
  if y_1 then
    some true
  else
    (spec_DrawNumberBytes code).bind fun y_3 =>
    (impl_NumberBytes y_3).bind fun y_4 =>
    (spec_NumberBytes y_3).bind fun y_5 =>
    (spec_DrawReadNumber code).bind fun y_6 =>
    (impl_ReadNumber y_6).bind fun y_7 =>
    (spec_ReadNumber y_6).bind fun y_8 =>
    (spec_DrawFoldSign code).bind fun y_9 =>
    (impl_FoldSign y_9).bind fun y_10 =>
    (spec_FoldSign y_9).bind fun y_11 =>
    (spec_DrawUnfoldSign code).bind fun y_12 =>
    (impl_UnfoldSign y_12).bind fun y_13 =>
    (spec_UnfoldSign y_12).bind fun y_14 =>
    (spec_DrawHexOf code).bind fun y_15 =>
    (impl_HexOf y_15).bind fun y_16 =>
    (spec_HexOf y_15).bind fun y_17 =>
    (spec_DrawBytesOfHex code).bind fun y_18 =>
    (impl_BytesOfHex y_18).bind fun y_19 =>
    (spec_BytesOfHex y_18).bind fun y_20 =>
    (spec_DrawSumOfBytes code).bind fun y_21 =>
    ck (!(!(((((((((((((!(y_4.2 == y_5.2)) || (!(y_4.1 == y_5.1))) || (!(y_7.1 == y_8.1))) || (!(y_7.2.1 == y_8.2.1))) || (!(y_7.2.2 == y_8.2.2))) || (!(y_10.2 == y_11.2))) || (!(y_10.1 == y_11.1))) || (!(y_13.2 == y_14.2))) || (!(y_13.1 == y_14.1))) || (!(y_16.2 == y_17.2))) || (!(y_16.1 == y_17.1))) || (!(y_19.2 == y_20.2))) || (!(y_19.1 == y_20.1)))) || (impl_SumOfBytes y_21).isSome) <|
    ck (!(!(((((((((((((!(y_4.2 == y_5.2)) || (!(y_4.1 == y_5.1))) || (!(y_7.1 == y_8.1))) || (!(y_7.2.1 == y_8.2.1))) || (!(y_7.2.2 == y_8.2.2))) || (!(y_10.2 == y_11.2))) || (!(y_10.1 == y_11.1))) || (!(y_13.2 == y_14.2))) || (!(y_13.1 == y_14.1))) || (!(y_16.2 == y_17.2))) || (!(y_16.1 == y_17.1))) || (!(y_19.2 == y_20.2))) || (!(y_19.1 == y_20.1)))) || (spec_SumOfBytes y_21).isSome) <|
    if ((((((((((((((!(y_4.2 == y_5.2)) || (!(y_4.1 == y_5.1))) || (!(y_7.1 == y_8.1))) || (!(y_7.2.1 == y_8.2.1))) || (!(y_7.2.2 == y_8.2.2))) || (!(y_10.2 == y_11.2))) || (!(y_10.1 == y_11.1))) || (!(y_13.2 == y_14.2))) || (!(y_13.1 == y_14.1))) || (!(y_16.2 == y_17.2))) || (!(y_16.1 == y_17.1))) || (!(y_19.2 == y_20.2))) || (!(y_19.1 == y_20.1))) || (!(((impl_SumOfBytes y_21).getD default) == ((spec_SumOfBytes y_21).getD default)))) then
      some false
    else
      if (y_10.2 == 0) then
        (impl_UnfoldSign y_10.1).bind fun y_26 =>
        if ((!(y_26.2 == 0)) || (!(y_26.1 == y_9))) then
          some false
        else
          if (y_16.2 == 0) then
            (impl_BytesOfHex y_16.1).bind fun y_29 =>
            if ((!y_29.2) || (!(y_29.1 == y_15))) then
              some false
            else
              if (!(y_4.2 == 0)) then
                some true
              else
                (impl_ReadNumber y_4.1).bind fun y_32 =>
                some ((y_32.2.2 && (y_32.1 == y_3)) && (y_32.2.1 == (y_4.1.length : Int)))
          else
            if (!(y_4.2 == 0)) then
              some true
            else
              (impl_ReadNumber y_4.1).bind fun y_34 =>
              some ((y_34.2.2 && (y_34.1 == y_3)) && (y_34.2.1 == (y_4.1.length : Int)))
      else
        if (y_16.2 == 0) then
          (impl_BytesOfHex y_16.1).bind fun y_36 =>
          if ((!y_36.2) || (!(y_36.1 == y_15))) then
            some false
          else
            if (!(y_4.2 == 0)) then
              some true
            else
              (impl_ReadNumber y_4.1).bind fun y_39 =>
              some ((y_39.2.2 && (y_39.1 == y_3)) && (y_39.2.1 == (y_4.1.length : Int)))
        else
          if (!(y_4.2 == 0)) then
            some true
          else
            (impl_ReadNumber y_4.1).bind fun y_41 =>
            some ((y_41.2.2 && (y_41.1 == y_3)) && (y_41.2.1 == (y_4.1.length : Int)))

end Go.Proofs.Ytcfjogkgmkagiaa
