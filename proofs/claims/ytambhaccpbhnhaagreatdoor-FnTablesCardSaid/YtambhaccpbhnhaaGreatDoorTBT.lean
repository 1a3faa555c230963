/- Typed forms of the functions that TB reaches. No condition. -/
import Derived.Test.YtambhaccpbhnhaaGreatDoorEngSM
namespace Go.Proofs.YtambhaccpbhnhaaGreatDoor
open Go Go.RowKit
set_option linter.unusedVariables false

structure L00Src where
  code_ : List UInt8
  at_ : Int
  seed_ : Int
  deriving Inhabited, DecidableEq
def L00Src_av (x : L00Src) : AV := .agg ([.sl 1 (List.map byteAV x.code_), .int .i64 x.at_, .int .u64 x.seed_])

attribute [go_sem] L00Src_av

/-- laws.f6big -/
noncomputable def laws_f6big (code : List UInt8) : Option Bool :=
  some (decide (4096 < (code.length : Int)))

/-- spec.l00From -/
noncomputable def spec_l00From (code : List UInt8) : Option L00Src :=
  some (L00Src.mk code 0 0)

/-- (*spec.l00Src).next -/
noncomputable def spec_l00Src_next (s_ : L00Src) : Option (Int × L00Src) :=
  if (decide (s_.at_ < (s_.code_.length : Int))) then
    ck (ixOk s_.at_ s_.code_.length) <|
    if (decide ((IntKind.i64.wrap (s_.at_ + 1)) ≤ (s_.code_.length : Int))) then
      some (((s_.code_.getD s_.at_.toNat default).toNat : Int), (L00Src.mk s_.code_ (IntKind.i64.wrap (s_.at_ + 1)) (IntKind.u64.wrap ((IntKind.u64.wrap ((IntKind.u64.wrap (s_.seed_ * 6364136223846793005)) + (IntKind.u64.wrap ((s_.code_.getD s_.at_.toNat default).toNat : Int)))) + 1442695040888963407))))
    else
      ck (shOk 40) <|
      some ((IntKind.i64.wrap (IntKind.u64.wrap (BitVec.ofInt (IntKind.bits .u64) ((IntKind.u64.wrap ((IntKind.u64.wrap ((IntKind.u64.wrap (s_.seed_ * 6364136223846793005)) + (IntKind.u64.wrap ((s_.code_.getD s_.at_.toNat default).toNat : Int)))) + 1442695040888963407)).fdiv (2 ^ (min 40 64))) &&& BitVec.ofInt (IntKind.bits .u64) 255).toNat)), (L00Src.mk s_.code_ (IntKind.i64.wrap (s_.at_ + 1)) (IntKind.u64.wrap ((IntKind.u64.wrap ((IntKind.u64.wrap (s_.seed_ * 6364136223846793005)) + (IntKind.u64.wrap ((s_.code_.getD s_.at_.toNat default).toNat : Int)))) + 1442695040888963407))))
  else
    if (decide ((IntKind.i64.wrap (s_.at_ + 1)) ≤ (s_.code_.length : Int))) then
      some (0, (L00Src.mk s_.code_ (IntKind.i64.wrap (s_.at_ + 1)) (IntKind.u64.wrap ((IntKind.u64.wrap ((IntKind.u64.wrap (s_.seed_ * 6364136223846793005)) + (IntKind.u64.wrap 0))) + 1442695040888963407))))
    else
      ck (shOk 40) <|
      some ((IntKind.i64.wrap (IntKind.u64.wrap (BitVec.ofInt (IntKind.bits .u64) ((IntKind.u64.wrap ((IntKind.u64.wrap ((IntKind.u64.wrap (s_.seed_ * 6364136223846793005)) + (IntKind.u64.wrap 0))) + 1442695040888963407)).fdiv (2 ^ (min 40 64))) &&& BitVec.ofInt (IntKind.bits .u64) 255).toNat)), (L00Src.mk s_.code_ (IntKind.i64.wrap (s_.at_ + 1)) (IntKind.u64.wrap ((IntKind.u64.wrap ((IntKind.u64.wrap (s_.seed_ * 6364136223846793005)) + (IntKind.u64.wrap 0))) + 1442695040888963407))))

/-- (*spec.l00Src).pick -/
noncomputable def spec_l00Src_pick (s_ : L00Src) (n : Int) : Option (Int × L00Src) :=
  if (decide (n ≤ 1)) then
    some (0, s_)
  else
    (spec_l00Src_next s_).bind fun y_2 =>
    if (decide (200 < n)) then
      (spec_l00Src_next y_2.2).bind fun y_4 =>
      ck (nz n) <|
      some (((IntKind.i64.wrap ((IntKind.i64.wrap (y_2.1 * 256)) + y_4.1)).tmod n), y_4.2)
    else
      ck (nz n) <|
      some ((y_2.1.tmod n), y_2.2)

/-- (*spec.l00Src).one -/
noncomputable def spec_l00Src_one (s_ : L00Src) (n : Int) : Option (Bool × L00Src) :=
  (spec_l00Src_pick s_ n).bind fun y_1 =>
  some ((y_1.1 == 0), y_1.2)

/-- (*spec.l00Src).text -/
noncomputable def spec_l00Src_text (s_ : L00Src) (list : List (List UInt8)) : Option ((List UInt8) × L00Src) :=
  (spec_l00Src_pick s_ (list.length : Int)).bind fun y_1 =>
  ck (ixOk y_1.1 list.length) <|
  some ((list.getD y_1.1.toNat default), y_1.2)

/-- spec.l24Word -/
noncomputable def spec_l24Word (s_ : L00Src) : Option ((List UInt8) × L00Src) :=
  (spec_l00Src_one s_ 30).bind fun y_1 =>
  if y_1.1 then
    (spec_l00Src_text y_1.2 ([([97, 10, 98] : List UInt8), ([120, 127] : List UInt8), ([31] : List UInt8)] : List (List UInt8))).bind fun y_3 =>
    some (y_3.1, y_3.2)
  else
    (spec_l00Src_text y_1.2 ([([] : List UInt8), ([97] : List UInt8), ([109, 105, 114, 97] : List UInt8), ([49, 50] : List UInt8), ([57, 46, 53, 48, 48] : List UInt8), ([114, 114, 45, 108, 121, 114] : List UInt8), ([111, 98, 115, 101, 114, 118, 101, 114, 115] : List UInt8), ([109, 97, 120, 32, 49] : List UInt8)] : List (List UInt8))).bind fun y_4 =>
    some (y_4.1, y_4.2)

noncomputable def spec_l24Blanks_l1  : (Int × (List UInt8)) → Option ((Int × (List UInt8)) ⊕ (List UInt8))
  | (n, out) =>
    if (decide (0 < n)) then
      ck (appOk (out.length + ([(32 : UInt8)] : List UInt8).length) 1) <|
      some (.inl ((IntKind.i64.wrap (n - 1)), (out ++ ([(32 : UInt8)] : List UInt8))))
    else
      some (.inr out)

/-- spec.l24Blanks -/
noncomputable def spec_l24Blanks (n : Int) : Option (List UInt8) :=
  (whileE (spec_l24Blanks_l1) (n, ([] : List UInt8))).bind fun y_3 =>
  some y_3

/-- spec.l24DrawRows, by hand: the words of a row -/
noncomputable def spec_l24DrawRows_w : Nat → L00Src → List (List UInt8) → Option (List (List UInt8) × L00Src)
  | 0, s, row => some (row, s)
  | k + 1, s, row =>
    (spec_l24Word s).bind fun y =>
    ck (decide (row.length + 1 ≤ 1099511627776)) <|
    spec_l24DrawRows_w k y.2 (row ++ [y.1])

/-- the rows -/
noncomputable def spec_l24DrawRows_r (n : Nat) : Nat → L00Src → List (List (List UInt8)) → Option (List (List (List UInt8)) × L00Src)
  | 0, s, out => some (out, s)
  | k + 1, s, out =>
    (spec_l24DrawRows_w n s []).bind fun y =>
    ck (decide (out.length + 1 ≤ 1099511627776)) <|
    spec_l24DrawRows_r n k y.2 (out ++ [y.1])

/-- what becomes of one of them -/
noncomputable def spec_l24DrawRows_t (n : Int) (s : L00Src) (out : List (List (List UInt8))) : Option (List (List (List UInt8)) × L00Src) :=
  if (decide (0 < (out.length : Int))) then
    (spec_l00Src_pick s (out.length : Int)).bind fun y_1 =>
    (spec_l00Src_pick y_1.2 20).bind fun y_2 =>
    if (y_2.1 == 0) then
      ck (ixOk y_1.1 out.length) <|
      ck (decide ((out.getD y_1.1.toNat []).length + 1 ≤ 1099511627776)) <|
      some (out.set y_1.1.toNat (out.getD y_1.1.toNat [] ++ [[120]]), y_2.2)
    else if (y_2.1 == 1) then
      if (decide (0 < n)) then
        ck (ixOk y_1.1 out.length) <|
        (spec_l00Src_pick y_2.2 2).bind fun y_3 =>
        (spec_l24Blanks (IntKind.i64.wrap (80 + y_3.1))).bind fun y_4 =>
        ck (ixOk 0 (out.getD y_1.1.toNat []).length) <|
        some (out.set y_1.1.toNat ((out.getD y_1.1.toNat []).set 0 y_4), y_3.2)
      else
        some (out, y_2.2)
    else if (y_2.1 == 2) then
      (spec_l00Src_pick y_2.2 2).bind fun y_3 =>
      ck (decide (0 ≤ IntKind.i64.wrap (60 + y_3.1)) && decide (IntKind.i64.wrap (60 + y_3.1) ≤ 1099511627776)) <|
      some (List.replicate (IntKind.i64.wrap (60 + y_3.1)).toNat [], y_3.2)
    else
      some (out, y_2.2)
  else
    some (out, s)

noncomputable def spec_l24DrawRows (s_ : L00Src) : Option (List (List (List UInt8)) × L00Src) :=
  (spec_l00Src_pick s_ 5).bind fun y_1 =>
  (spec_l00Src_one y_1.2 16).bind fun y_2 =>
  (if y_2.1 then (spec_l00Src_pick y_2.2 2).bind fun y_3 => some (IntKind.i64.wrap (8 + y_3.1), y_3.2) else some (y_1.1, y_2.2)).bind fun y_4 =>
  (spec_l00Src_pick y_4.2 6).bind fun y_5 =>
  ck (decide (y_4.1 ≤ 1000000) && decide (y_5.1 ≤ 1000000)) <|
  (spec_l24DrawRows_r y_4.1.toNat y_5.1.toNat y_5.2 []).bind fun y_6 =>
  spec_l24DrawRows_t y_4.1 y_6.2 y_6.1

noncomputable def spec_DrawTableLines_l1 (rows : List (List (List UInt8))) (n : Int) : (L00Src × (List UInt8) × Int) → Option ((L00Src × (List UInt8) × Int) ⊕ (L00Src × (List UInt8)))
  | (s_, sides, k) =>
    if (decide (k < n)) then
      (spec_l00Src_pick s_ 2).bind fun y_6 =>
      ck (ixOk y_6.1 (([108, 114] : List UInt8).length)) <|
      ck (appOk (sides.length + ([(([108, 114] : List UInt8).getD y_6.1.toNat 0)] : List UInt8).length) 1) <|
      some (.inl (y_6.2, (sides ++ ([(([108, 114] : List UInt8).getD y_6.1.toNat 0)] : List UInt8)), (IntKind.i64.wrap (k + 1))))
    else
      some (.inr (s_, sides))

noncomputable def spec_DrawTableLines_l2 (rows : List (List (List UInt8))) (n : Int) : (L00Src × (List UInt8) × Int) → Option ((L00Src × (List UInt8) × Int) ⊕ (L00Src × (List UInt8)))
  | (s_, sides, k) =>
    if (decide (k < n)) then
      (spec_l00Src_pick s_ 2).bind fun y_16 =>
      ck (ixOk y_16.1 (([108, 114] : List UInt8).length)) <|
      ck (appOk (sides.length + ([(([108, 114] : List UInt8).getD y_16.1.toNat 0)] : List UInt8).length) 1) <|
      some (.inl (y_16.2, (sides ++ ([(([108, 114] : List UInt8).getD y_16.1.toNat 0)] : List UInt8)), (IntKind.i64.wrap (k + 1))))
    else
      some (.inr (s_, sides))

/-- spec.DrawTableLines -/
noncomputable def spec_DrawTableLines (code : List UInt8) : Option ((List (List (List UInt8))) × (List UInt8)) :=
  (spec_l00From code).bind fun y_1 =>
  (spec_l24DrawRows y_1).bind fun y_2 =>
  if (decide (0 < (y_2.1.length : Int))) then
    ck (ixOk 0 y_2.1.length) <|
    (whileE (spec_DrawTableLines_l1 y_2.1 ((y_2.1.getD 0 default).length : Int)) (y_2.2, ([] : List UInt8), 0)).bind fun y_9 =>
    (spec_l00Src_one y_9.1 10).bind fun y_10 =>
    if y_10.1 then
      (spec_l00Src_pick y_10.2 3).bind fun y_12 =>
      ck (ixOk y_12.1 (([108, 114, 120] : List UInt8).length)) <|
      ck (appOk (y_9.2.length + ([(([108, 114, 120] : List UInt8).getD y_12.1.toNat 0)] : List UInt8).length) 1) <|
      some (y_2.1, (y_9.2 ++ ([(([108, 114, 120] : List UInt8).getD y_12.1.toNat 0)] : List UInt8)))
    else
      some (y_2.1, y_9.2)
  else
    (whileE (spec_DrawTableLines_l2 y_2.1 0) (y_2.2, ([] : List UInt8), 0)).bind fun y_19 =>
    (spec_l00Src_one y_19.1 10).bind fun y_20 =>
    if y_20.1 then
      (spec_l00Src_pick y_20.2 3).bind fun y_22 =>
      ck (ixOk y_22.1 (([108, 114, 120] : List UInt8).length)) <|
      ck (appOk (y_19.2.length + ([(([108, 114, 120] : List UInt8).getD y_22.1.toNat 0)] : List UInt8).length) 1) <|
      some (y_2.1, (y_19.2 ++ ([(([108, 114, 120] : List UInt8).getD y_22.1.toNat 0)] : List UInt8)))
    else
      some (y_2.1, y_19.2)

noncomputable def impl_isPlain_l1 (s_ : List UInt8) (t5 : Int) : Int → Option (Int ⊕ (Unit ⊕ Bool))
  | t6 =>
    if (decide (t6 < t5)) then
      ck (ixOk t6 s_.length) <|
      if ((decide (((s_.getD t6.toNat 0).toNat : Int) < 32)) || (decide (126 < ((s_.getD t6.toNat 0).toNat : Int)))) then
        some (.inr (.inr false))
      else
        some (.inl (IntKind.i64.wrap (t6 + 1)))
    else
      some (.inr (.inl ()))

/-- impl.isPlain -/
noncomputable def impl_isPlain (s_ : List UInt8) : Option Bool :=
  (whileE (impl_isPlain_l1 s_ (s_.length : Int)) 0).bind fun y_4 =>
  match y_4 with
  | .inl y_4a =>
    some true
  | .inr y_4b =>
    some y_4b

noncomputable def impl_checkTable_l2 (rows : List (List (List UInt8))) (t11 : List (List (List UInt8))) (t12 : Int) (t13 : Int) (t17 : List (List UInt8)) (t18 : Int) : Int → Option (Int ⊕ (Unit ⊕ Int))
  | t19 =>
    if (decide (t19 < t18)) then
      ck (ixOk t19 t17.length) <|
      (impl_isPlain (t17.getD t19.toNat default)).bind fun y_5 =>
      if (!y_5) then
        some (.inr (.inr 7))
      else
        some (.inl (IntKind.i64.wrap (t19 + 1)))
    else
      some (.inr (.inl ()))

noncomputable def impl_checkTable_l1 (rows : List (List (List UInt8))) (t11 : List (List (List UInt8))) (t12 : Int) : Int → Option (Int ⊕ (Unit ⊕ Int))
  | t13 =>
    if (decide (t13 < t12)) then
      ck (ixOk t13 t11.length) <|
      (whileE (impl_checkTable_l2 rows t11 t12 t13 (t11.getD t13.toNat default) ((t11.getD t13.toNat default).length : Int)) 0).bind fun y_7 =>
      match y_7 with
      | .inl y_7a =>
        some (.inl (IntKind.i64.wrap (t13 + 1)))
      | .inr y_7b =>
        some (.inr (.inr y_7b))
    else
      some (.inr (.inl ()))

noncomputable def impl_checkTable_l4 (rows : List (List (List UInt8))) (t31 : List (List (List UInt8))) (t32 : Int) (t33 : Int) (t49 : List (List UInt8)) (t50 : Int) : Int → Option (Int ⊕ (Unit ⊕ Int))
  | t51 =>
    if (decide (t51 < t50)) then
      ck (ixOk t51 t49.length) <|
      if (decide (80 < ((t49.getD t51.toNat default).length : Int))) then
        some (.inr (.inr 2))
      else
        some (.inl (IntKind.i64.wrap (t51 + 1)))
    else
      some (.inr (.inl ()))

noncomputable def impl_checkTable_l3 (rows : List (List (List UInt8))) (t31 : List (List (List UInt8))) (t32 : Int) : Int → Option (Int ⊕ (Unit ⊕ Int))
  | t33 =>
    if (decide (t33 < t32)) then
      ck (ixOk t33 t31.length) <|
      ck (ixOk 0 rows.length) <|
      if ((!(((t31.getD t33.toNat default).length : Int) == ((rows.getD 0 default).length : Int))) || (decide (8 < ((t31.getD t33.toNat default).length : Int)))) then
        some (.inr (.inr 2))
      else
        (whileE (impl_checkTable_l4 rows t31 t32 t33 (t31.getD t33.toNat default) ((t31.getD t33.toNat default).length : Int)) 0).bind fun y_17 =>
        match y_17 with
        | .inl y_17a =>
          some (.inl (IntKind.i64.wrap (t33 + 1)))
        | .inr y_17b =>
          some (.inr (.inr y_17b))
    else
      some (.inr (.inl ()))

/-- impl.checkTable -/
noncomputable def impl_checkTable (rows : List (List (List UInt8))) : Option Int :=
  (whileE (impl_checkTable_l1 rows rows (rows.length : Int)) 0).bind fun y_8 =>
  match y_8 with
  | .inl y_8a =>
    if (decide (60 < (rows.length : Int))) then
      some 2
    else
      (whileE (impl_checkTable_l3 rows rows (rows.length : Int)) 0).bind fun y_18 =>
      match y_18 with
      | .inl y_18a =>
        some 0
      | .inr y_18b =>
        some y_18b
  | .inr y_8b =>
    some y_8b

noncomputable def impl_ColumnWidths_l2 (t24 : List (List (List UInt8))) (t25 : Int) (t26 : Int) (t30 : List (List UInt8)) (t31 : Int) : ((List Int) × Int) → Option (((List Int) × Int) ⊕ (List Int))
  | (widths, t32) =>
    if (decide (t32 < t31)) then
      ck (ixOk t32 t30.length) <|
      ck (ixOk t32 widths.length) <|
      some (.inl ((widths.set t32.toNat (if (widths.getD t32.toNat default) < ((t30.getD t32.toNat default).length : Int) then ((t30.getD t32.toNat default).length : Int) else (widths.getD t32.toNat default))), (IntKind.i64.wrap (t32 + 1))))
    else
      some (.inr widths)

noncomputable def impl_ColumnWidths_l1 (t24 : List (List (List UInt8))) (t25 : Int) : ((List Int) × Int) → Option (((List Int) × Int) ⊕ (List Int))
  | (widths, t26) =>
    if (decide (t26 < t25)) then
      ck (ixOk t26 t24.length) <|
      (whileE (impl_ColumnWidths_l2 t24 t25 t26 (t24.getD t26.toNat default) ((t24.getD t26.toNat default).length : Int)) (widths, 0)).bind fun y_11 =>
      some (.inl (y_11, (IntKind.i64.wrap (t26 + 1))))
    else
      some (.inr widths)

/-- impl.ColumnWidths -/
noncomputable def impl_ColumnWidths (rows : List (List (List UInt8))) : Option ((List Int) × Int) :=
  (impl_checkTable rows).bind fun y_1 =>
  if (!(y_1 == 0)) then
    some (([] : List Int), y_1)
  else
    if ((rows.length : Int) == 0) then
      some (([] : List Int), 0)
    else
      ck (ixOk 0 rows.length) <|
      ck (mkOk ((rows.getD 0 default).length : Int) 8) <|
      (whileE (impl_ColumnWidths_l1 rows (rows.length : Int)) ((List.replicate ((rows.getD 0 default).length : Int).toNat (0 : Int)), 0)).bind fun y_12 =>
      some (y_12, 0)


/-- impl.in -/
noncomputable def impl_in (n : Int) (low : Int) (high : Int) : Option Bool :=
  some ((decide (low ≤ n)) && (decide (n ≤ high)))


/-- impl.padding -/
noncomputable def impl_padding (s_ : List UInt8) (width : Int) : Option ((List UInt8) × Int) :=
  (impl_isPlain s_).bind fun y_1 =>
  if (!y_1) then
    some (([] : List UInt8), 7)
  else
    (impl_in width 0 80).bind fun y_3 =>
    if (!y_3) then
      some (([] : List UInt8), 2)
    else
      if (decide (width < (s_.length : Int))) then
        some (([] : List UInt8), 5)
      else
        (hRepeat ([32] : List UInt8) (IntKind.i64.wrap (width - (s_.length : Int)))).bind fun y_6 =>
        some (y_6, 0)

/-- impl.PadRight -/
noncomputable def impl_PadRight (s_ : List UInt8) (width : Int) : Option ((List UInt8) × Int) :=
  (impl_padding s_ width).bind fun y_1 =>
  if (!(y_1.2 == 0)) then
    some (([] : List UInt8), y_1.2)
  else
    ck (catOk s_.length y_1.1.length) <|
    some ((s_ ++ y_1.1), 0)

/-- impl.PadLeft -/
noncomputable def impl_PadLeft (s_ : List UInt8) (width : Int) : Option ((List UInt8) × Int) :=
  (impl_padding s_ width).bind fun y_1 =>
  if (!(y_1.2 == 0)) then
    some (([] : List UInt8), y_1.2)
  else
    ck (catOk y_1.1.length s_.length) <|
    some ((y_1.1 ++ s_), 0)


noncomputable def impl_TableLines_l2 (sides : List UInt8) (widths : List Int) (lines : List (List UInt8)) (t37 : List (List (List UInt8))) (t38 : Int) (t39 : Int) (t44 : List (List UInt8)) (t45 : Int) : ((List (List UInt8)) × Int) → Option (((List (List UInt8)) × Int) ⊕ (List (List UInt8)))
  | (words, t46) =>
    if (decide (t46 < t45)) then
      ck (ixOk t46 t44.length) <|
      ck (ixOk t46 widths.length) <|
      (impl_PadRight (t44.getD t46.toNat default) (widths.getD t46.toNat default)).bind fun y_10 =>
      ck (ixOk t46 sides.length) <|
      if (((sides.getD t46.toNat 0).toNat : Int) == 114) then
        (impl_PadLeft (t44.getD t46.toNat default) (widths.getD t46.toNat default)).bind fun y_13 =>
        ck (appOk (words.length + ([y_13.1] : List (List UInt8)).length) 16) <|
        some (.inl ((words ++ ([y_13.1] : List (List UInt8))), (IntKind.i64.wrap (t46 + 1))))
      else
        ck (appOk (words.length + ([y_10.1] : List (List UInt8)).length) 16) <|
        some (.inl ((words ++ ([y_10.1] : List (List UInt8))), (IntKind.i64.wrap (t46 + 1))))
    else
      some (.inr words)

noncomputable def impl_TableLines_l1 (sides : List UInt8) (widths : List Int) (t37 : List (List (List UInt8))) (t38 : Int) : ((List (List UInt8)) × Int) → Option (((List (List UInt8)) × Int) ⊕ (List (List UInt8)))
  | (lines, t39) =>
    if (decide (t39 < t38)) then
      ck (ixOk t39 t37.length) <|
      (whileE (impl_TableLines_l2 sides widths lines t37 t38 t39 (t37.getD t39.toNat default) ((t37.getD t39.toNat default).length : Int)) (([] : List (List UInt8)), 0)).bind fun y_16 =>
      (hJoin y_16 ([32] : List UInt8)).bind fun y_17 =>
      ck (appOk (lines.length + ([y_17] : List (List UInt8)).length) 16) <|
      some (.inl ((lines ++ ([y_17] : List (List UInt8))), (IntKind.i64.wrap (t39 + 1))))
    else
      some (.inr lines)

/-- impl.TableLines -/
noncomputable def impl_TableLines (rows : List (List (List UInt8))) (sides : List UInt8) : Option ((List (List UInt8)) × Int) :=
  (impl_ColumnWidths rows).bind fun y_1 =>
  if (!(y_1.2 == 0)) then
    some (([] : List (List UInt8)), y_1.2)
  else
    ck (!(!(!((sides.length : Int) == (y_1.1.length : Int)))) || (hTrim sides ([108, 114] : List UInt8)).isSome) <|
    if ((!((sides.length : Int) == (y_1.1.length : Int))) || (!(((hTrim sides ([108, 114] : List UInt8)).getD default) == ([] : List UInt8)))) then
      some (([] : List (List UInt8)), 2)
    else
      (whileE (impl_TableLines_l1 sides y_1.1 rows (rows.length : Int)) (([] : List (List UInt8)), 0)).bind fun y_19 =>
      some (y_19, 0)

noncomputable def spec_l24Plain_l1 (s_ : List UInt8) : Int → Option (Int ⊕ (Unit ⊕ Bool))
  | i =>
    if (decide (i < (s_.length : Int))) then
      ck (ixOk i s_.length) <|
      if ((decide (((s_.getD i.toNat 0).toNat : Int) < 32)) || (decide (126 < ((s_.getD i.toNat 0).toNat : Int)))) then
        some (.inr (.inr false))
      else
        some (.inl (IntKind.i64.wrap (i + 1)))
    else
      some (.inr (.inl ()))

/-- spec.l24Plain -/
noncomputable def spec_l24Plain (s_ : List UInt8) : Option Bool :=
  (whileE (spec_l24Plain_l1 s_) 0).bind fun y_4 =>
  match y_4 with
  | .inl y_4a =>
    some true
  | .inr y_4b =>
    some y_4b

noncomputable def spec_l24Rows_l2 (rows : List (List (List UInt8))) (i : Int) : Int → Option (Int ⊕ (Unit ⊕ Int))
  | k =>
    ck (ixOk i rows.length) <|
    if (decide (k < ((rows.getD i.toNat default).length : Int))) then
      ck (ixOk k ((rows.getD i.toNat default).length)) <|
      (spec_l24Plain ((rows.getD i.toNat default).getD k.toNat default)).bind fun y_5 =>
      if (!y_5) then
        some (.inr (.inr 7))
      else
        some (.inl (IntKind.i64.wrap (k + 1)))
    else
      some (.inr (.inl ()))

noncomputable def spec_l24Rows_l1 (rows : List (List (List UInt8))) : Int → Option (Int ⊕ (Unit ⊕ Int))
  | i =>
    if (decide (i < (rows.length : Int))) then
      (whileE (spec_l24Rows_l2 rows i) 0).bind fun y_7 =>
      match y_7 with
      | .inl y_7a =>
        some (.inl (IntKind.i64.wrap (i + 1)))
      | .inr y_7b =>
        some (.inr (.inr y_7b))
    else
      some (.inr (.inl ()))

noncomputable def spec_l24Rows_l4 (rows : List (List (List UInt8))) (i : Int) : Int → Option (Int ⊕ (Unit ⊕ Int))
  | k =>
    ck (ixOk i rows.length) <|
    if (decide (k < ((rows.getD i.toNat default).length : Int))) then
      ck (ixOk k ((rows.getD i.toNat default).length)) <|
      if (decide (80 < (((rows.getD i.toNat default).getD k.toNat default).length : Int))) then
        some (.inr (.inr 2))
      else
        some (.inl (IntKind.i64.wrap (k + 1)))
    else
      some (.inr (.inl ()))

noncomputable def spec_l24Rows_l3 (rows : List (List (List UInt8))) : Int → Option (Int ⊕ (Unit ⊕ Int))
  | i =>
    if (decide (i < (rows.length : Int))) then
      ck (ixOk i rows.length) <|
      ck (ixOk 0 rows.length) <|
      if ((!(((rows.getD i.toNat default).length : Int) == ((rows.getD 0 default).length : Int))) || (decide (8 < ((rows.getD i.toNat default).length : Int)))) then
        some (.inr (.inr 2))
      else
        (whileE (spec_l24Rows_l4 rows i) 0).bind fun y_17 =>
        match y_17 with
        | .inl y_17a =>
          some (.inl (IntKind.i64.wrap (i + 1)))
        | .inr y_17b =>
          some (.inr (.inr y_17b))
    else
      some (.inr (.inl ()))

/-- spec.l24Rows -/
noncomputable def spec_l24Rows (rows : List (List (List UInt8))) : Option Int :=
  (whileE (spec_l24Rows_l1 rows) 0).bind fun y_8 =>
  match y_8 with
  | .inl y_8a =>
    (whileE (spec_l24Rows_l3 rows) 0).bind fun y_18 =>
    match y_18 with
    | .inl y_18a =>
      if (decide (60 < (rows.length : Int))) then
        some 2
      else
        some 0
    | .inr y_18b =>
      some y_18b
  | .inr y_8b =>
    some y_8b

/-- spec.l00Max -/
noncomputable def spec_l00Max (a : Int) (b : Int) : Option Int :=
  if (decide (b < a)) then
    some a
  else
    some b

noncomputable def spec_l24Widths_l2 (rows : List (List (List UInt8))) (i : Int) : ((List Int) × Int) → Option (((List Int) × Int) ⊕ (List Int))
  | (out, k) =>
    ck (ixOk i rows.length) <|
    if (decide (k < ((rows.getD i.toNat default).length : Int))) then
      if (k == (out.length : Int)) then
        ck (appOk (out.length + ([0] : List Int).length) 8) <|
        ck (ixOk k ((out ++ ([0] : List Int)).length)) <|
        ck (ixOk k ((rows.getD i.toNat default).length)) <|
        (spec_l00Max ((out ++ ([0] : List Int)).getD k.toNat default) (((rows.getD i.toNat default).getD k.toNat default).length : Int)).bind fun y_8 =>
        some (.inl (((out ++ ([0] : List Int)).set k.toNat y_8), (IntKind.i64.wrap (k + 1))))
      else
        ck (ixOk k out.length) <|
        ck (ixOk k ((rows.getD i.toNat default).length)) <|
        (spec_l00Max (out.getD k.toNat default) (((rows.getD i.toNat default).getD k.toNat default).length : Int)).bind fun y_11 =>
        some (.inl ((out.set k.toNat y_11), (IntKind.i64.wrap (k + 1))))
    else
      some (.inr out)

noncomputable def spec_l24Widths_l1 (rows : List (List (List UInt8))) : ((List Int) × Int) → Option (((List Int) × Int) ⊕ (List Int))
  | (out, i) =>
    if (decide (i < (rows.length : Int))) then
      (whileE (spec_l24Widths_l2 rows i) (out, 0)).bind fun y_12 =>
      some (.inl (y_12, (IntKind.i64.wrap (i + 1))))
    else
      some (.inr out)

/-- spec.l24Widths -/
noncomputable def spec_l24Widths (rows : List (List (List UInt8))) : Option (List Int) :=
  (whileE (spec_l24Widths_l1 rows) (([] : List Int), 0)).bind fun y_13 =>
  some y_13

noncomputable def spec_TableLines_l1 (rows : List (List (List UInt8))) (sides : List UInt8) : (Int × Int) → Option ((Int × Int) ⊕ Int)
  | (code, i) =>
    if ((decide (i < (sides.length : Int))) && (code == 0)) then
      ck (ixOk i sides.length) <|
      if ((!(((sides.getD i.toNat 0).toNat : Int) == 108)) && (!(((sides.getD i.toNat 0).toNat : Int) == 114))) then
        some (.inl (2, (IntKind.i64.wrap (i + 1))))
      else
        some (.inl (code, (IntKind.i64.wrap (i + 1))))
    else
      some (.inr code)

noncomputable def spec_TableLines_l3 (rows : List (List (List UInt8))) (sides : List UInt8) (widths : List Int) (out : List (List UInt8)) (i : Int) : ((List UInt8) × Int) → Option (((List UInt8) × Int) ⊕ (List UInt8))
  | (line, k) =>
    ck (ixOk i rows.length) <|
    if (decide (k < ((rows.getD i.toNat default).length : Int))) then
      if (decide (0 < k)) then
        ck (catOk line.length ([32] : List UInt8).length) <|
        ck (ixOk k widths.length) <|
        ck (ixOk k ((rows.getD i.toNat default).length)) <|
        (spec_l24Blanks (IntKind.i64.wrap ((widths.getD k.toNat default) - (((rows.getD i.toNat default).getD k.toNat default).length : Int)))).bind fun y_17 =>
        ck (ixOk k sides.length) <|
        if (((sides.getD k.toNat 0).toNat : Int) == 114) then
          ck (catOk y_17.length ((rows.getD i.toNat default).getD k.toNat default).length) <|
          ck (catOk (line ++ ([32] : List UInt8)).length (y_17 ++ ((rows.getD i.toNat default).getD k.toNat default)).length) <|
          some (.inl (((line ++ ([32] : List UInt8)) ++ (y_17 ++ ((rows.getD i.toNat default).getD k.toNat default))), (IntKind.i64.wrap (k + 1))))
        else
          ck (catOk ((rows.getD i.toNat default).getD k.toNat default).length y_17.length) <|
          ck (catOk (line ++ ([32] : List UInt8)).length (((rows.getD i.toNat default).getD k.toNat default) ++ y_17).length) <|
          some (.inl (((line ++ ([32] : List UInt8)) ++ (((rows.getD i.toNat default).getD k.toNat default) ++ y_17)), (IntKind.i64.wrap (k + 1))))
      else
        ck (ixOk k widths.length) <|
        ck (ixOk k ((rows.getD i.toNat default).length)) <|
        (spec_l24Blanks (IntKind.i64.wrap ((widths.getD k.toNat default) - (((rows.getD i.toNat default).getD k.toNat default).length : Int)))).bind fun y_26 =>
        ck (ixOk k sides.length) <|
        if (((sides.getD k.toNat 0).toNat : Int) == 114) then
          ck (catOk y_26.length ((rows.getD i.toNat default).getD k.toNat default).length) <|
          ck (catOk line.length (y_26 ++ ((rows.getD i.toNat default).getD k.toNat default)).length) <|
          some (.inl ((line ++ (y_26 ++ ((rows.getD i.toNat default).getD k.toNat default))), (IntKind.i64.wrap (k + 1))))
        else
          ck (catOk ((rows.getD i.toNat default).getD k.toNat default).length y_26.length) <|
          ck (catOk line.length (((rows.getD i.toNat default).getD k.toNat default) ++ y_26).length) <|
          some (.inl ((line ++ (((rows.getD i.toNat default).getD k.toNat default) ++ y_26)), (IntKind.i64.wrap (k + 1))))
    else
      some (.inr line)

noncomputable def spec_TableLines_l2 (rows : List (List (List UInt8))) (sides : List UInt8) (widths : List Int) : ((List (List UInt8)) × Int) → Option (((List (List UInt8)) × Int) ⊕ (List (List UInt8)))
  | (out, i) =>
    if (decide (i < (rows.length : Int))) then
      (whileE (spec_TableLines_l3 rows sides widths out i) (([] : List UInt8), 0)).bind fun y_33 =>
      ck (appOk (out.length + ([y_33] : List (List UInt8)).length) 16) <|
      some (.inl ((out ++ ([y_33] : List (List UInt8))), (IntKind.i64.wrap (i + 1))))
    else
      some (.inr out)

noncomputable def spec_TableLines_l5 (rows : List (List (List UInt8))) (sides : List UInt8) (widths : List Int) (out : List (List UInt8)) (i : Int) : ((List UInt8) × Int) → Option (((List UInt8) × Int) ⊕ (List UInt8))
  | (line, k) =>
    ck (ixOk i rows.length) <|
    if (decide (k < ((rows.getD i.toNat default).length : Int))) then
      if (decide (0 < k)) then
        ck (catOk line.length ([32] : List UInt8).length) <|
        ck (ixOk k widths.length) <|
        ck (ixOk k ((rows.getD i.toNat default).length)) <|
        (spec_l24Blanks (IntKind.i64.wrap ((widths.getD k.toNat default) - (((rows.getD i.toNat default).getD k.toNat default).length : Int)))).bind fun y_44 =>
        ck (ixOk k sides.length) <|
        if (((sides.getD k.toNat 0).toNat : Int) == 114) then
          ck (catOk y_44.length ((rows.getD i.toNat default).getD k.toNat default).length) <|
          ck (catOk (line ++ ([32] : List UInt8)).length (y_44 ++ ((rows.getD i.toNat default).getD k.toNat default)).length) <|
          some (.inl (((line ++ ([32] : List UInt8)) ++ (y_44 ++ ((rows.getD i.toNat default).getD k.toNat default))), (IntKind.i64.wrap (k + 1))))
        else
          ck (catOk ((rows.getD i.toNat default).getD k.toNat default).length y_44.length) <|
          ck (catOk (line ++ ([32] : List UInt8)).length (((rows.getD i.toNat default).getD k.toNat default) ++ y_44).length) <|
          some (.inl (((line ++ ([32] : List UInt8)) ++ (((rows.getD i.toNat default).getD k.toNat default) ++ y_44)), (IntKind.i64.wrap (k + 1))))
      else
        ck (ixOk k widths.length) <|
        ck (ixOk k ((rows.getD i.toNat default).length)) <|
        (spec_l24Blanks (IntKind.i64.wrap ((widths.getD k.toNat default) - (((rows.getD i.toNat default).getD k.toNat default).length : Int)))).bind fun y_53 =>
        ck (ixOk k sides.length) <|
        if (((sides.getD k.toNat 0).toNat : Int) == 114) then
          ck (catOk y_53.length ((rows.getD i.toNat default).getD k.toNat default).length) <|
          ck (catOk line.length (y_53 ++ ((rows.getD i.toNat default).getD k.toNat default)).length) <|
          some (.inl ((line ++ (y_53 ++ ((rows.getD i.toNat default).getD k.toNat default))), (IntKind.i64.wrap (k + 1))))
        else
          ck (catOk ((rows.getD i.toNat default).getD k.toNat default).length y_53.length) <|
          ck (catOk line.length (((rows.getD i.toNat default).getD k.toNat default) ++ y_53).length) <|
          some (.inl ((line ++ (((rows.getD i.toNat default).getD k.toNat default) ++ y_53)), (IntKind.i64.wrap (k + 1))))
    else
      some (.inr line)

noncomputable def spec_TableLines_l4 (rows : List (List (List UInt8))) (sides : List UInt8) (widths : List Int) : ((List (List UInt8)) × Int) → Option (((List (List UInt8)) × Int) ⊕ (List (List UInt8)))
  | (out, i) =>
    if (decide (i < (rows.length : Int))) then
      (whileE (spec_TableLines_l5 rows sides widths out i) (([] : List UInt8), 0)).bind fun y_60 =>
      ck (appOk (out.length + ([y_60] : List (List UInt8)).length) 16) <|
      some (.inl ((out ++ ([y_60] : List (List UInt8))), (IntKind.i64.wrap (i + 1))))
    else
      some (.inr out)

noncomputable def spec_TableLines_l7 (rows : List (List (List UInt8))) (sides : List UInt8) (widths : List Int) (out : List (List UInt8)) (i : Int) : ((List UInt8) × Int) → Option (((List UInt8) × Int) ⊕ (List UInt8))
  | (line, k) =>
    ck (ixOk i rows.length) <|
    if (decide (k < ((rows.getD i.toNat default).length : Int))) then
      if (decide (0 < k)) then
        ck (catOk line.length ([32] : List UInt8).length) <|
        ck (ixOk k widths.length) <|
        ck (ixOk k ((rows.getD i.toNat default).length)) <|
        (spec_l24Blanks (IntKind.i64.wrap ((widths.getD k.toNat default) - (((rows.getD i.toNat default).getD k.toNat default).length : Int)))).bind fun y_71 =>
        ck (ixOk k sides.length) <|
        if (((sides.getD k.toNat 0).toNat : Int) == 114) then
          ck (catOk y_71.length ((rows.getD i.toNat default).getD k.toNat default).length) <|
          ck (catOk (line ++ ([32] : List UInt8)).length (y_71 ++ ((rows.getD i.toNat default).getD k.toNat default)).length) <|
          some (.inl (((line ++ ([32] : List UInt8)) ++ (y_71 ++ ((rows.getD i.toNat default).getD k.toNat default))), (IntKind.i64.wrap (k + 1))))
        else
          ck (catOk ((rows.getD i.toNat default).getD k.toNat default).length y_71.length) <|
          ck (catOk (line ++ ([32] : List UInt8)).length (((rows.getD i.toNat default).getD k.toNat default) ++ y_71).length) <|
          some (.inl (((line ++ ([32] : List UInt8)) ++ (((rows.getD i.toNat default).getD k.toNat default) ++ y_71)), (IntKind.i64.wrap (k + 1))))
      else
        ck (ixOk k widths.length) <|
        ck (ixOk k ((rows.getD i.toNat default).length)) <|
        (spec_l24Blanks (IntKind.i64.wrap ((widths.getD k.toNat default) - (((rows.getD i.toNat default).getD k.toNat default).length : Int)))).bind fun y_80 =>
        ck (ixOk k sides.length) <|
        if (((sides.getD k.toNat 0).toNat : Int) == 114) then
          ck (catOk y_80.length ((rows.getD i.toNat default).getD k.toNat default).length) <|
          ck (catOk line.length (y_80 ++ ((rows.getD i.toNat default).getD k.toNat default)).length) <|
          some (.inl ((line ++ (y_80 ++ ((rows.getD i.toNat default).getD k.toNat default))), (IntKind.i64.wrap (k + 1))))
        else
          ck (catOk ((rows.getD i.toNat default).getD k.toNat default).length y_80.length) <|
          ck (catOk line.length (((rows.getD i.toNat default).getD k.toNat default) ++ y_80).length) <|
          some (.inl ((line ++ (((rows.getD i.toNat default).getD k.toNat default) ++ y_80)), (IntKind.i64.wrap (k + 1))))
    else
      some (.inr line)

noncomputable def spec_TableLines_l6 (rows : List (List (List UInt8))) (sides : List UInt8) (widths : List Int) : ((List (List UInt8)) × Int) → Option (((List (List UInt8)) × Int) ⊕ (List (List UInt8)))
  | (out, i) =>
    if (decide (i < (rows.length : Int))) then
      (whileE (spec_TableLines_l7 rows sides widths out i) (([] : List UInt8), 0)).bind fun y_87 =>
      ck (appOk (out.length + ([y_87] : List (List UInt8)).length) 16) <|
      some (.inl ((out ++ ([y_87] : List (List UInt8))), (IntKind.i64.wrap (i + 1))))
    else
      some (.inr out)

/-- spec.TableLines -/
noncomputable def spec_TableLines (rows : List (List (List UInt8))) (sides : List UInt8) : Option ((List (List UInt8)) × Int) :=
  (spec_l24Rows rows).bind fun y_1 =>
  (whileE (spec_TableLines_l1 rows sides) (y_1, 0)).bind fun y_5 =>
  if (y_5 == 0) then
    (spec_l24Widths rows).bind fun y_7 =>
    if (!((sides.length : Int) == (y_7.length : Int))) then
      if (!(2 == 0)) then
        some (([] : List (List UInt8)), 2)
      else
        (whileE (spec_TableLines_l2 rows sides y_7) (([] : List (List UInt8)), 0)).bind fun y_35 =>
        some (y_35, 0)
    else
      if (!(y_5 == 0)) then
        some (([] : List (List UInt8)), y_5)
      else
        (whileE (spec_TableLines_l4 rows sides y_7) (([] : List (List UInt8)), 0)).bind fun y_62 =>
        some (y_62, 0)
  else
    if (!(y_5 == 0)) then
      some (([] : List (List UInt8)), y_5)
    else
      (whileE (spec_TableLines_l6 rows sides ([] : List Int)) (([] : List (List UInt8)), 0)).bind fun y_89 =>
      some (y_89, 0)

/-- spec.DrawColumnWidths -/
noncomputable def spec_DrawColumnWidths (code : List UInt8) : Option (List (List (List UInt8))) :=
  (spec_l00From code).bind fun y_1 =>
  (spec_l24DrawRows y_1).bind fun y_2 =>
  some y_2.1

/-- spec.ColumnWidths -/
noncomputable def spec_ColumnWidths (rows : List (List (List UInt8))) : Option ((List Int) × Int) :=
  (spec_l24Rows rows).bind fun y_1 =>
  if (!(y_1 == 0)) then
    some (([] : List Int), y_1)
  else
    (spec_l24Widths rows).bind fun y_3 =>
    some (y_3, 0)

/-- (*spec.l00Src).among -/
noncomputable def spec_l00Src_among (s_ : L00Src) (list : List Int) : Option (Int × L00Src) :=
  (spec_l00Src_pick s_ (list.length : Int)).bind fun y_1 =>
  ck (ixOk y_1.1 list.length) <|
  some ((list.getD y_1.1.toNat default), y_1.2)

noncomputable def spec_DrawWrapText_l1  : (L00Src × (List UInt8) × Int) → Option ((L00Src × (List UInt8) × Int) ⊕ (L00Src × (List UInt8)))
  | (s_, t, k) =>
    if (decide (0 < k)) then
      (spec_l24Word s_).bind fun y_4 =>
      (spec_l00Src_pick y_4.2 2).bind fun y_5 =>
      (spec_l24Blanks (IntKind.i64.wrap (1 + y_5.1))).bind fun y_6 =>
      ck (catOk y_4.1.length y_6.length) <|
      ck (catOk t.length (y_4.1 ++ y_6).length) <|
      some (.inl (y_5.2, (t ++ (y_4.1 ++ y_6)), (IntKind.i64.wrap (k - 1))))
    else
      some (.inr (s_, t))

/-- spec.DrawWrapText -/
noncomputable def spec_DrawWrapText (code : List UInt8) : Option ((List UInt8) × Int) :=
  (spec_l00From code).bind fun y_1 =>
  (spec_l00Src_pick y_1 9).bind fun y_2 =>
  (whileE (spec_DrawWrapText_l1) (y_2.2, ([] : List UInt8), y_2.1)).bind fun y_9 =>
  (spec_l00Src_one y_9.1 20).bind fun y_10 =>
  if y_10.1 then
    (spec_l00Src_pick y_10.2 2).bind fun y_12 =>
    (spec_l24Blanks (IntKind.i64.wrap (2000 + y_12.1))).bind fun y_13 =>
    (spec_l00Src_one y_12.2 12).bind fun y_14 =>
    if y_14.1 then
      (spec_l00Src_among y_14.2 ([0, 1, 80, 81, (-9223372036854775808)] : List Int)).bind fun y_16 =>
      some (y_13, y_16.1)
    else
      (spec_l00Src_pick y_14.2 20).bind fun y_17 =>
      some (y_13, (IntKind.i64.wrap (6 + y_17.1)))
  else
    (spec_l00Src_one y_10.2 12).bind fun y_18 =>
    if y_18.1 then
      (spec_l00Src_among y_18.2 ([0, 1, 80, 81, (-9223372036854775808)] : List Int)).bind fun y_20 =>
      some (y_9.2, y_20.1)
    else
      (spec_l00Src_pick y_18.2 20).bind fun y_21 =>
      some (y_9.2, (IntKind.i64.wrap (6 + y_21.1)))


noncomputable def impl_SplitWords_l1 (t8 : List (List UInt8)) (t9 : Int) : ((List (List UInt8)) × Int) → Option (((List (List UInt8)) × Int) ⊕ (List (List UInt8)))
  | (words, t10) =>
    if (decide (t10 < t9)) then
      ck (ixOk t10 t8.length) <|
      if (!((t8.getD t10.toNat default) == ([] : List UInt8))) then
        ck (appOk (words.length + ([(t8.getD t10.toNat default)] : List (List UInt8)).length) 16) <|
        some (.inl ((words ++ ([(t8.getD t10.toNat default)] : List (List UInt8))), (IntKind.i64.wrap (t10 + 1))))
      else
        some (.inl (words, (IntKind.i64.wrap (t10 + 1))))
    else
      some (.inr words)

/-- impl.SplitWords -/
noncomputable def impl_SplitWords (s_ : List UInt8) : Option (List (List UInt8)) :=
  (hSplit s_ ([32] : List UInt8)).bind fun y_1 =>
  (whileE (impl_SplitWords_l1 y_1 (y_1.length : Int)) (([] : List (List UInt8)), 0)).bind fun y_6 =>
  some y_6

noncomputable def impl_WrapText_l1 (width : Int) (t25 : List (List UInt8)) (t26 : Int) : ((List (List UInt8)) × Int) → Option (((List (List UInt8)) × Int) ⊕ ((List (List UInt8)) ⊕ ((List (List UInt8)) × Int)))
  | (lines, t27) =>
    if (decide (t27 < t26)) then
      ck (ixOk t27 t25.length) <|
      if (decide (width < ((t25.getD t27.toNat default).length : Int))) then
        some (.inr (.inr (([] : List (List UInt8)), 5)))
      else
        ck (!(decide (0 ≤ (IntKind.i64.wrap ((lines.length : Int) - 1)))) || ixOk (IntKind.i64.wrap ((lines.length : Int) - 1)) lines.length) <|
        if ((decide (0 ≤ (IntKind.i64.wrap ((lines.length : Int) - 1)))) && (decide ((IntKind.i64.wrap ((IntKind.i64.wrap (((lines.getD (IntKind.i64.wrap ((lines.length : Int) - 1)).toNat default).length : Int) + 1)) + ((t25.getD t27.toNat default).length : Int))) ≤ width))) then
          ck (ixOk (IntKind.i64.wrap ((lines.length : Int) - 1)) lines.length) <|
          ck (catOk ([32] : List UInt8).length (t25.getD t27.toNat default).length) <|
          ck (catOk (lines.getD (IntKind.i64.wrap ((lines.length : Int) - 1)).toNat default).length (([32] : List UInt8) ++ (t25.getD t27.toNat default)).length) <|
          some (.inl ((lines.set ((IntKind.i64.wrap ((lines.length : Int) - 1)).toNat) ((lines.getD (IntKind.i64.wrap ((lines.length : Int) - 1)).toNat default) ++ (([32] : List UInt8) ++ (t25.getD t27.toNat default)))), (IntKind.i64.wrap (t27 + 1))))
        else
          ck (appOk (lines.length + ([(t25.getD t27.toNat default)] : List (List UInt8)).length) 16) <|
          some (.inl ((lines ++ ([(t25.getD t27.toNat default)] : List (List UInt8))), (IntKind.i64.wrap (t27 + 1))))
    else
      some (.inr (.inl lines))

/-- impl.WrapText -/
noncomputable def impl_WrapText (s_ : List UInt8) (width : Int) : Option ((List (List UInt8)) × Int) :=
  (impl_isPlain s_).bind fun y_1 =>
  if (!y_1) then
    some (([] : List (List UInt8)), 7)
  else
    (impl_in width 1 80).bind fun y_3 =>
    if ((!y_3) || (decide (2000 < (s_.length : Int)))) then
      some (([] : List (List UInt8)), 2)
    else
      (impl_SplitWords s_).bind fun y_5 =>
      (whileE (impl_WrapText_l1 width y_5 (y_5.length : Int)) (([] : List (List UInt8)), 0)).bind fun y_15 =>
      match y_15 with
      | .inl y_15a =>
        some (y_15a, 0)
      | .inr y_15b =>
        some (y_15b.1, y_15b.2)

/-- spec.l00In -/
noncomputable def spec_l00In (n : Int) (low : Int) (high : Int) : Option Bool :=
  some ((decide (low ≤ n)) && (decide (n ≤ high)))

noncomputable def spec_l01Split_l1 (s_ : List UInt8) (by_ : UInt8) : ((List (List UInt8)) × Int × Int) → Option (((List (List UInt8)) × Int × Int) ⊕ ((List (List UInt8)) × Int))
  | (out, from_, i) =>
    if (decide (i < (s_.length : Int))) then
      ck (ixOk i s_.length) <|
      if (((s_.getD i.toNat 0).toNat : Int) == (by_.toNat : Int)) then
        ck (cutOk from_ i s_.length) <|
        ck (appOk (out.length + ([(cut s_ from_ i)] : List (List UInt8)).length) 16) <|
        some (.inl ((out ++ ([(cut s_ from_ i)] : List (List UInt8))), (IntKind.i64.wrap (i + 1)), (IntKind.i64.wrap (i + 1))))
      else
        some (.inl (out, from_, (IntKind.i64.wrap (i + 1))))
    else
      some (.inr (out, from_))

/-- spec.l01Split -/
noncomputable def spec_l01Split (s_ : List UInt8) (by_ : UInt8) : Option (List (List UInt8)) :=
  (whileE (spec_l01Split_l1 s_ by_) (([] : List (List UInt8)), 0, 0)).bind fun y_6 =>
  ck (cutOk y_6.2 (s_.length : Int) s_.length) <|
  ck (appOk (y_6.1.length + ([(cut s_ y_6.2 (s_.length : Int))] : List (List UInt8)).length) 16) <|
  some (y_6.1 ++ ([(cut s_ y_6.2 (s_.length : Int))] : List (List UInt8)))

noncomputable def spec_SplitWords_l1 (list : List (List UInt8)) : ((List (List UInt8)) × Int) → Option (((List (List UInt8)) × Int) ⊕ (List (List UInt8)))
  | (out, i) =>
    if (decide (i < (list.length : Int))) then
      ck (ixOk i list.length) <|
      if (!((list.getD i.toNat default) == ([] : List UInt8))) then
        ck (appOk (out.length + ([(list.getD i.toNat default)] : List (List UInt8)).length) 16) <|
        some (.inl ((out ++ ([(list.getD i.toNat default)] : List (List UInt8))), (IntKind.i64.wrap (i + 1))))
      else
        some (.inl (out, (IntKind.i64.wrap (i + 1))))
    else
      some (.inr out)

/-- spec.SplitWords -/
noncomputable def spec_SplitWords (s_ : List UInt8) : Option (List (List UInt8)) :=
  (spec_l01Split s_ (32 : UInt8)).bind fun y_1 =>
  (whileE (spec_SplitWords_l1 y_1) (([] : List (List UInt8)), 0)).bind fun y_6 =>
  some y_6

noncomputable def spec_WrapText_l1 (width : Int) (words : List (List UInt8)) : ((List (List UInt8)) × Int) → Option (((List (List UInt8)) × Int) ⊕ ((List (List UInt8)) ⊕ ((List (List UInt8)) × Int)))
  | (out, i) =>
    if (decide (i < (words.length : Int))) then
      ck (ixOk i words.length) <|
      if (decide (width < ((words.getD i.toNat default).length : Int))) then
        some (.inr (.inr (([] : List (List UInt8)), 5)))
      else
        ck (!(decide (0 < (out.length : Int))) || ixOk (IntKind.i64.wrap ((out.length : Int) - 1)) out.length) <|
        if ((decide (0 < (out.length : Int))) && (decide ((IntKind.i64.wrap ((IntKind.i64.wrap (((out.getD (IntKind.i64.wrap ((out.length : Int) - 1)).toNat default).length : Int) + 1)) + ((words.getD i.toNat default).length : Int))) ≤ width))) then
          ck (ixOk (IntKind.i64.wrap ((out.length : Int) - 1)) out.length) <|
          ck (catOk ([32] : List UInt8).length (words.getD i.toNat default).length) <|
          ck (catOk (out.getD (IntKind.i64.wrap ((out.length : Int) - 1)).toNat default).length (([32] : List UInt8) ++ (words.getD i.toNat default)).length) <|
          some (.inl ((out.set ((IntKind.i64.wrap ((out.length : Int) - 1)).toNat) ((out.getD (IntKind.i64.wrap ((out.length : Int) - 1)).toNat default) ++ (([32] : List UInt8) ++ (words.getD i.toNat default)))), (IntKind.i64.wrap (i + 1))))
        else
          ck (appOk (out.length + ([(words.getD i.toNat default)] : List (List UInt8)).length) 16) <|
          some (.inl ((out ++ ([(words.getD i.toNat default)] : List (List UInt8))), (IntKind.i64.wrap (i + 1))))
    else
      some (.inr (.inl out))

/-- spec.WrapText -/
noncomputable def spec_WrapText (s_ : List UInt8) (width : Int) : Option ((List (List UInt8)) × Int) :=
  (spec_l24Plain s_).bind fun y_1 =>
  if (!y_1) then
    some (([] : List (List UInt8)), 7)
  else
    (spec_l00In width 1 80).bind fun y_3 =>
    if ((!y_3) || (decide (2000 < (s_.length : Int)))) then
      some (([] : List (List UInt8)), 2)
    else
      (spec_SplitWords s_).bind fun y_5 =>
      (whileE (spec_WrapText_l1 width y_5) (([] : List (List UInt8)), 0)).bind fun y_15 =>
      match y_15 with
      | .inl y_15a =>
        some (y_15a, 0)
      | .inr y_15b =>
        some (y_15b.1, y_15b.2)

noncomputable def spec_l24DrawLines_l1  : (L00Src × (List (List UInt8)) × Int) → Option ((L00Src × (List (List UInt8)) × Int) ⊕ (L00Src × (List (List UInt8))))
  | (s_, out, k) =>
    if (decide (0 < k)) then
      (spec_l24Word s_).bind fun y_3 =>
      ck (appOk (out.length + ([y_3.1] : List (List UInt8)).length) 16) <|
      some (.inl (y_3.2, (out ++ ([y_3.1] : List (List UInt8))), (IntKind.i64.wrap (k - 1))))
    else
      some (.inr (s_, out))

/-- spec.l24DrawLines -/
noncomputable def spec_l24DrawLines (s_ : L00Src) : Option ((List (List UInt8)) × L00Src) :=
  (spec_l00Src_pick s_ 14).bind fun y_1 =>
  (whileE (spec_l24DrawLines_l1) (y_1.2, ([] : List (List UInt8)), y_1.1)).bind fun y_5 =>
  some (y_5.2, y_5.1)

/-- spec.DrawPageOf -/
noncomputable def spec_DrawPageOf (code : List UInt8) : Option ((List (List UInt8)) × Int × Int) :=
  (spec_l00From code).bind fun y_1 =>
  (spec_l24DrawLines y_1).bind fun y_2 =>
  (spec_l00Src_pick y_2.2 6).bind fun y_3 =>
  (spec_l00Src_one y_3.2 12).bind fun y_4 =>
  if y_4.1 then
    (spec_l00Src_among y_4.2 ([(-1), 0, 60, 61] : List Int)).bind fun y_6 =>
    (spec_l00Src_pick y_6.2 5).bind fun y_7 =>
    (spec_l00Src_pick y_7.2 16).bind fun y_8 =>
    ck (nz 15) <|
    some (y_2.1, y_6.1, (IntKind.i64.wrap (y_7.1 - (IntKind.i64.wrap (y_8.1.tdiv 15)))))
  else
    (spec_l00Src_pick y_4.2 5).bind fun y_10 =>
    (spec_l00Src_pick y_10.2 16).bind fun y_11 =>
    ck (nz 15) <|
    some (y_2.1, (IntKind.i64.wrap (1 + y_3.1)), (IntKind.i64.wrap (y_10.1 - (IntKind.i64.wrap (y_11.1.tdiv 15)))))

/-- impl.count[string] -/
noncomputable def impl_count_string (list : List (List UInt8)) : Option Int :=
  some (list.length : Int)

/-- impl.floorDiv -/
noncomputable def impl_floorDiv (a : Int) (b : Int) : Option Int :=
  ck (nz b) <|
  if (decide ((a.tmod b) < 0)) then
    some (IntKind.i64.wrap ((IntKind.i64.wrap (a.tdiv b)) - 1))
  else
    some (IntKind.i64.wrap (a.tdiv b))

/-- impl.ceilDiv -/
noncomputable def impl_ceilDiv (a : Int) (b : Int) : Option Int :=
  (impl_floorDiv (IntKind.i64.wrap (0 - a)) b).bind fun y_1 =>
  some (IntKind.i64.wrap (0 - y_1))

/-- impl.PagesOf -/
noncomputable def impl_PagesOf (lines : List (List UInt8)) (each : Int) : Option (Int × Int) :=
  (impl_in each 1 60).bind fun y_1 =>
  if (!y_1) then
    some (0, 2)
  else
    (impl_count_string lines).bind fun y_3 =>
    (impl_ceilDiv y_3 each).bind fun y_4 =>
    some (y_4, 0)

/-- impl.copyOf[string] -/
noncomputable def impl_copyOf_string (list : List (List UInt8)) : Option (List (List UInt8)) :=
  ck (appOk (([] : List (List UInt8)).length + list.length) 16) <|
  some (([] : List (List UInt8)) ++ list)

/-- impl.PageOf -/
noncomputable def impl_PageOf (lines : List (List UInt8)) (each : Int) (page : Int) : Option ((List (List UInt8)) × Int) :=
  (impl_PagesOf lines each).bind fun y_1 =>
  if (!(y_1.2 == 0)) then
    some (([] : List (List UInt8)), y_1.2)
  else
    (impl_in page 0 (IntKind.i64.wrap (y_1.1 - 1))).bind fun y_3 =>
    if (!y_3) then
      some (([] : List (List UInt8)), 3)
    else
      (impl_count_string lines).bind fun y_5 =>
      ck (cutOk (IntKind.i64.wrap (page * each)) (if y_5 < (IntKind.i64.wrap ((IntKind.i64.wrap (page + 1)) * each)) then y_5 else (IntKind.i64.wrap ((IntKind.i64.wrap (page + 1)) * each))) lines.length) <|
      (impl_copyOf_string (cut lines (IntKind.i64.wrap (page * each)) (if y_5 < (IntKind.i64.wrap ((IntKind.i64.wrap (page + 1)) * each)) then y_5 else (IntKind.i64.wrap ((IntKind.i64.wrap (page + 1)) * each))))).bind fun y_7 =>
      some (y_7, 0)

/-- spec.l24Pages -/
noncomputable def spec_l24Pages (lines : List (List UInt8)) (each : Int) : Option Int :=
  ck (nz each) <|
  some (IntKind.i64.wrap ((IntKind.i64.wrap ((IntKind.i64.wrap ((lines.length : Int) + each)) - 1)).tdiv each))

/-- spec.l00Min -/
noncomputable def spec_l00Min (a : Int) (b : Int) : Option Int :=
  if (decide (a < b)) then
    some a
  else
    some b

/-- spec.PageOf -/
noncomputable def spec_PageOf (lines : List (List UInt8)) (each : Int) (page : Int) : Option ((List (List UInt8)) × Int) :=
  (spec_l00In each 1 60).bind fun y_1 =>
  if (!y_1) then
    some (([] : List (List UInt8)), 2)
  else
    (spec_l24Pages lines each).bind fun y_3 =>
    (spec_l00In page 0 (IntKind.i64.wrap (y_3 - 1))).bind fun y_4 =>
    if (!y_4) then
      some (([] : List (List UInt8)), 3)
    else
      (spec_l00Min (IntKind.i64.wrap ((IntKind.i64.wrap (page * each)) + each)) (lines.length : Int)).bind fun y_6 =>
      ck (cutOk (IntKind.i64.wrap (page * each)) y_6 lines.length) <|
      ck (appOk (([] : List (List UInt8)).length + (cut lines (IntKind.i64.wrap (page * each)) y_6).length) 16) <|
      some ((([] : List (List UInt8)) ++ (cut lines (IntKind.i64.wrap (page * each)) y_6)), 0)

/-- spec.PagesOf -/
noncomputable def spec_PagesOf (lines : List (List UInt8)) (each : Int) : Option (Int × Int) :=
  (spec_l00In each 1 60).bind fun y_1 =>
  if (!y_1) then
    some (0, 2)
  else
    (spec_l24Pages lines each).bind fun y_3 =>
    some (y_3, 0)

/-- spec.l24Pad -/
noncomputable def spec_l24Pad (code : List UInt8) : Option ((List UInt8) × Int) :=
  (spec_l00From code).bind fun y_1 =>
  (spec_l24Word y_1).bind fun y_2 =>
  (spec_l00Src_one y_2.2 8).bind fun y_3 =>
  if y_3.1 then
    (spec_l00Src_among y_3.2 ([(-1), 0, (y_2.1.length : Int), 80, 81, 9223372036854775807] : List Int)).bind fun y_5 =>
    some (y_2.1, y_5.1)
  else
    (spec_l00Src_pick y_3.2 14).bind fun y_6 =>
    some (y_2.1, y_6.1)

/-- spec.DrawPadLeft -/
noncomputable def spec_DrawPadLeft (code : List UInt8) : Option ((List UInt8) × Int) :=
  (spec_l24Pad code).bind fun y_1 =>
  some (y_1.1, y_1.2)

/-- spec.l24Width -/
noncomputable def spec_l24Width (n : Int) : Option Bool :=
  (spec_l00In n 0 80).bind fun y_1 =>
  some y_1

/-- spec.l24Code -/
noncomputable def spec_l24Code (s_ : List UInt8) (width : Int) : Option Int :=
  (spec_l24Plain s_).bind fun y_1 =>
  if (!y_1) then
    some 7
  else
    (spec_l24Width width).bind fun y_3 =>
    if (!y_3) then
      some 2
    else
      if (decide (width < (s_.length : Int))) then
        some 5
      else
        some 0

/-- spec.PadLeft -/
noncomputable def spec_PadLeft (s_ : List UInt8) (width : Int) : Option ((List UInt8) × Int) :=
  (spec_l24Code s_ width).bind fun y_1 =>
  if (!(y_1 == 0)) then
    some (([] : List UInt8), y_1)
  else
    (spec_l24Blanks (IntKind.i64.wrap (width - (s_.length : Int)))).bind fun y_3 =>
    ck (catOk y_3.length s_.length) <|
    some ((y_3 ++ s_), 0)

/-- spec.PadRight -/
noncomputable def spec_PadRight (s_ : List UInt8) (width : Int) : Option ((List UInt8) × Int) :=
  (spec_l24Code s_ width).bind fun y_1 =>
  if (!(y_1 == 0)) then
    some (([] : List UInt8), y_1)
  else
    (spec_l24Blanks (IntKind.i64.wrap (width - (s_.length : Int)))).bind fun y_3 =>
    ck (catOk s_.length y_3.length) <|
    some ((s_ ++ y_3), 0)

noncomputable def laws_f6texts_l1 (a : List (List UInt8)) (b : List (List UInt8)) : Int → Option (Int ⊕ (Unit ⊕ Bool))
  | i =>
    if (decide (i < (a.length : Int))) then
      ck (ixOk i a.length) <|
      ck (ixOk i b.length) <|
      if (!((a.getD i.toNat default) == (b.getD i.toNat default))) then
        some (.inr (.inr false))
      else
        some (.inl (IntKind.i64.wrap (i + 1)))
    else
      some (.inr (.inl ()))

/-- laws.f6texts -/
noncomputable def laws_f6texts (a : List (List UInt8)) (b : List (List UInt8)) : Option Bool :=
  if (!((a.length : Int) == (b.length : Int))) then
    some false
  else
    (whileE (laws_f6texts_l1 a b) 0).bind fun y_6 =>
    match y_6 with
    | .inl y_6a =>
      some true
    | .inr y_6b =>
      some y_6b

noncomputable def laws_f6ints_l1 (a : List Int) (b : List Int) : Int → Option (Int ⊕ (Unit ⊕ Bool))
  | i =>
    if (decide (i < (a.length : Int))) then
      ck (ixOk i a.length) <|
      ck (ixOk i b.length) <|
      if (!((a.getD i.toNat default) == (b.getD i.toNat default))) then
        some (.inr (.inr false))
      else
        some (.inl (IntKind.i64.wrap (i + 1)))
    else
      some (.inr (.inl ()))

/-- laws.f6ints -/
noncomputable def laws_f6ints (a : List Int) (b : List Int) : Option Bool :=
  if (!((a.length : Int) == (b.length : Int))) then
    some false
  else
    (whileE (laws_f6ints_l1 a b) 0).bind fun y_6 =>
    match y_6 with
    | .inl y_6a =>
      some true
    | .inr y_6b =>
      some y_6b

noncomputable def laws_FnTables_l1 (lines : List (List UInt8)) (model : List (List UInt8)) (s_ : List UInt8) (width : Int) (wrapped : List (List UInt8)) (three : Int) (l : List (List UInt8)) (each : Int) (seven : Int) (many : Int) (w : Int) (left_ : List UInt8) (nine : Int) (behind : List UInt8) : Int → Option (Int ⊕ (Unit ⊕ Bool))
  | i =>
    if (decide (i < (model.length : Int))) then
      ck (ixOk i lines.length) <|
      ck (ixOk 0 lines.length) <|
      if (!(((lines.getD i.toNat default).length : Int) == ((lines.getD 0 default).length : Int))) then
        some (.inr (.inr false))
      else
        some (.inl (IntKind.i64.wrap (i + 1)))
    else
      some (.inr (.inl ()))

noncomputable def laws_FnTables_l2 (s_ : List UInt8) (width : Int) (wrapped : List (List UInt8)) (l : List (List UInt8)) (each : Int) (seven : Int) (many : Int) (w : Int) (left_ : List UInt8) (nine : Int) (behind : List UInt8) : ((List UInt8) × Int) → Option (((List UInt8) × Int) ⊕ ((List UInt8) ⊕ Bool))
  | (all, i) =>
    if (decide (i < (wrapped.length : Int))) then
      ck (ixOk i wrapped.length) <|
      if (decide (width < ((wrapped.getD i.toNat default).length : Int))) then
        some (.inr (.inr false))
      else
        ck (catOk all.length (wrapped.getD i.toNat default).length) <|
        ck (catOk (all ++ (wrapped.getD i.toNat default)).length ([32] : List UInt8).length) <|
        some (.inl (((all ++ (wrapped.getD i.toNat default)) ++ ([32] : List UInt8)), (IntKind.i64.wrap (i + 1))))
    else
      some (.inr (.inl all))

noncomputable def laws_FnTables_l3 (l : List (List UInt8)) (each : Int) (many : Int) (w : Int) (left_ : List UInt8) (nine : Int) (behind : List UInt8) : (Int × Int) → Option ((Int × Int) ⊕ (Int ⊕ Bool))
  | (sum, p) =>
    if (decide (p < many)) then
      (impl_PageOf l each p).bind fun y_45 =>
      if ((!(y_45.2 == 0)) || ((y_45.1.length : Int) == 0)) then
        some (.inr (.inr false))
      else
        some (.inl ((IntKind.i64.wrap (sum + (y_45.1.length : Int))), (IntKind.i64.wrap (p + 1))))
    else
      some (.inr (.inl sum))

noncomputable def laws_FnTables_l4 (l : List (List UInt8)) (each : Int) (many : Int) (w : Int) (left_ : List UInt8) (nine : Int) (behind : List UInt8) : (Int × Int) → Option ((Int × Int) ⊕ (Int ⊕ Bool))
  | (sum, p) =>
    if (decide (p < many)) then
      (impl_PageOf l each p).bind fun y_51 =>
      if ((!(y_51.2 == 0)) || ((y_51.1.length : Int) == 0)) then
        some (.inr (.inr false))
      else
        some (.inl ((IntKind.i64.wrap (sum + (y_51.1.length : Int))), (IntKind.i64.wrap (p + 1))))
    else
      some (.inr (.inl sum))

/-- laws.FnTables -/
noncomputable def laws_FnTables (code : List UInt8) : Option Bool :=
  (laws_f6big code).bind fun y_1 =>
  if y_1 then
    some true
  else
    (spec_DrawTableLines code).bind fun y_3 =>
    (impl_TableLines y_3.1 y_3.2).bind fun y_4 =>
    (spec_TableLines y_3.1 y_3.2).bind fun y_5 =>
    (spec_DrawColumnWidths code).bind fun y_6 =>
    (impl_ColumnWidths y_6).bind fun y_7 =>
    (spec_ColumnWidths y_6).bind fun y_8 =>
    (spec_DrawWrapText code).bind fun y_9 =>
    (impl_WrapText y_9.1 y_9.2).bind fun y_10 =>
    (spec_WrapText y_9.1 y_9.2).bind fun y_11 =>
    (spec_DrawPageOf code).bind fun y_12 =>
    (impl_PageOf y_12.1 y_12.2.1 y_12.2.2).bind fun y_13 =>
    (spec_PageOf y_12.1 y_12.2.1 y_12.2.2).bind fun y_14 =>
    (impl_PagesOf y_12.1 y_12.2.1).bind fun y_15 =>
    (spec_PagesOf y_12.1 y_12.2.1).bind fun y_16 =>
    (spec_DrawPadLeft code).bind fun y_17 =>
    (impl_PadLeft y_17.1 y_17.2).bind fun y_18 =>
    (spec_PadLeft y_17.1 y_17.2).bind fun y_19 =>
    (impl_PadRight y_17.1 y_17.2).bind fun y_20 =>
    (spec_PadRight y_17.1 y_17.2).bind fun y_21 =>
    ck (!(!(!(y_4.2 == y_5.2))) || (laws_f6texts y_4.1 y_5.1).isSome) <|
    ck (!(!(((!(y_4.2 == y_5.2)) || (!((laws_f6texts y_4.1 y_5.1).getD default))) || (!(y_7.2 == y_8.2)))) || (laws_f6ints y_7.1 y_8.1).isSome) <|
    ck (!(!(((((!(y_4.2 == y_5.2)) || (!((laws_f6texts y_4.1 y_5.1).getD default))) || (!(y_7.2 == y_8.2))) || (!((laws_f6ints y_7.1 y_8.1).getD default))) || (!(y_10.2 == y_11.2)))) || (laws_f6texts y_10.1 y_11.1).isSome) <|
    ck (!(!(((((((!(y_4.2 == y_5.2)) || (!((laws_f6texts y_4.1 y_5.1).getD default))) || (!(y_7.2 == y_8.2))) || (!((laws_f6ints y_7.1 y_8.1).getD default))) || (!(y_10.2 == y_11.2))) || (!((laws_f6texts y_10.1 y_11.1).getD default))) || (!(y_13.2 == y_14.2)))) || (laws_f6texts y_13.1 y_14.1).isSome) <|
    if ((((((((((((((!(y_4.2 == y_5.2)) || (!((laws_f6texts y_4.1 y_5.1).getD default))) || (!(y_7.2 == y_8.2))) || (!((laws_f6ints y_7.1 y_8.1).getD default))) || (!(y_10.2 == y_11.2))) || (!((laws_f6texts y_10.1 y_11.1).getD default))) || (!(y_13.2 == y_14.2))) || (!((laws_f6texts y_13.1 y_14.1).getD default))) || (!(y_15.2 == y_16.2))) || (!(y_15.1 == y_16.1))) || (!(y_18.2 == y_19.2))) || (!(y_18.1 == y_19.1))) || (!(y_20.2 == y_21.2))) || (!(y_20.1 == y_21.1))) then
      some false
    else
      (whileE (laws_FnTables_l1 y_4.1 y_5.1 y_9.1 y_9.2 y_10.1 y_10.2 y_12.1 y_12.2.1 y_15.2 y_16.1 y_17.2 y_18.1 y_18.2 y_20.1) 1).bind fun y_31 =>
      match y_31 with
      | .inl y_31a =>
        if (y_10.2 == 0) then
          (whileE (laws_FnTables_l2 y_9.1 y_9.2 y_10.1 y_12.1 y_12.2.1 y_15.2 y_16.1 y_17.2 y_18.1 y_18.2 y_20.1) (([] : List UInt8), 0)).bind fun y_38 =>
          match y_38 with
          | .inl y_38a =>
            (spec_SplitWords y_38a).bind fun y_39 =>
            (spec_SplitWords y_9.1).bind fun y_40 =>
            (laws_f6texts y_39 y_40).bind fun y_41 =>
            if (!y_41) then
              some false
            else
              if ((y_15.2 == 0) && (decide (y_16.1 < 100))) then
                (whileE (laws_FnTables_l3 y_12.1 y_12.2.1 y_16.1 y_17.2 y_18.1 y_18.2 y_20.1) (0, 0)).bind fun y_47 =>
                match y_47 with
                | .inl y_47a =>
                  if (!(y_47a == (y_12.1.length : Int))) then
                    some false
                  else
                    some ((!(y_18.2 == 0)) || (((y_18.1.length : Int) == y_17.2) && ((y_20.1.length : Int) == y_17.2)))
                | .inr y_47b =>
                  some y_47b
              else
                some ((!(y_18.2 == 0)) || (((y_18.1.length : Int) == y_17.2) && ((y_20.1.length : Int) == y_17.2)))
          | .inr y_38b =>
            some y_38b
        else
          if ((y_15.2 == 0) && (decide (y_16.1 < 100))) then
            (whileE (laws_FnTables_l4 y_12.1 y_12.2.1 y_16.1 y_17.2 y_18.1 y_18.2 y_20.1) (0, 0)).bind fun y_53 =>
            match y_53 with
            | .inl y_53a =>
              if (!(y_53a == (y_12.1.length : Int))) then
                some false
              else
                some ((!(y_18.2 == 0)) || (((y_18.1.length : Int) == y_17.2) && ((y_20.1.length : Int) == y_17.2)))
            | .inr y_53b =>
              some y_53b
          else
            some ((!(y_18.2 == 0)) || (((y_18.1.length : Int) == y_17.2) && ((y_20.1.length : Int) == y_17.2)))
      | .inr y_31b =>
        some y_31b

end Go.Proofs.YtambhaccpbhnhaaGreatDoor
