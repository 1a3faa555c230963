/- Typed forms of the functions that DK reaches. No condition. -/
import Derived.Test.YthdmeanbdohehaaGreatDoorEngSI
namespace Go.Proofs.YthdmeanbdohehaaGreatDoor
open Go Go.RowKit
set_option linter.unusedVariables false
structure AA where
 From : Int
 To : Int
 deriving Inhabited, DecidableEq
def AB (x : AA) : AV := .agg ([.int .i64 x.From, .int .i64 x.To])
structure Aw where
 code_ : List UInt8
 at_ : Int
 seed_ : Int
 deriving Inhabited, DecidableEq
def CE (x : Aw) : AV := .agg ([.sl 1 (List.map Cc x.code_), .int .i64 x.at_, .int .u64 x.seed_])
attribute [go_sem] AB CE
noncomputable def Ek (n : Int) (low : Int) (high : Int) : Option Bool :=
 some ((decide (low ≤ n)) && (decide (n ≤ high)))
noncomputable def Di (t : Int) : Option Bool :=
 (Ek t 0 10000000).bind fun y_1 =>
 some y_1
noncomputable def Eb (list : List AA) (t8 : List AA) (t9 : Int) : Int → Option (Int ⊕ (Unit ⊕ Bool))
 | t10 =>
  if (decide (t10 < t9)) then
   ck (BB t10 t8.length) <|
   (Di ((t8.getD t10.toNat default).From)).bind fun y_4 =>
   ck (!(!(!y_4)) || (Di ((t8.getD t10.toNat default).To)).isSome) <|
   ck (!((!(((!y_4) || (!((Di ((t8.getD t10.toNat default).To)).getD default))) || (decide (((t8.getD t10.toNat default).To) < ((t8.getD t10.toNat default).From))))) && (decide (0 < t10))) || BB (IntKind.i64.wrap (t10 - 1)) list.length) <|
   if ((((!y_4) || (!((Di ((t8.getD t10.toNat default).To)).getD default))) || (decide (((t8.getD t10.toNat default).To) < ((t8.getD t10.toNat default).From)))) || ((decide (0 < t10)) && (decide (((t8.getD t10.toNat default).From) ≤ ((list.getD (IntKind.i64.wrap (t10 - 1)).toNat default).To))))) then
    some (.inr (.inr false))
   else
    some (.inl (IntKind.i64.wrap (t10 + 1)))
  else
   some (.inr (.inl ()))
noncomputable def Ag (list : List AA) : Option Bool :=
 if (decide (30 < (list.length : Int))) then
  some false
 else
  (AJ (Eb list list (list.length : Int)) 0).bind fun y_8 =>
  match y_8 with
  | .inl y_8a =>
   some true
  | .inr y_8b =>
   some y_8b
noncomputable def GN (w : AA) (t1 : Int) : Option Bool :=
 some (decide (t1 ≤ (IntKind.i64.wrap ((IntKind.i64.wrap (w.To - w.From)) + 1))))
noncomputable def BO (c : Int) (t9 : List AA) (t10 : Int) : ((List AA) × Int) → Option (((List AA) × Int) ⊕ (List AA))
 | (out, t11) =>
  if (decide (t11 < t10)) then
   ck (BB t11 t9.length) <|
   (GN (t9.getD t11.toNat default) c).bind fun y_3 =>
   if y_3 then
    ck (Cr (out.length + ([(t9.getD t11.toNat default)] : List AA).length) 16) <|
    some (.inl ((out ++ ([(t9.getD t11.toNat default)] : List AA)), (IntKind.i64.wrap (t11 + 1))))
   else
    some (.inl (out, (IntKind.i64.wrap (t11 + 1))))
  else
   some (.inr out)
noncomputable def BV (list : List AA) (wanted_c0 : Int) : Option (List AA) :=
 (AJ (BO wanted_c0 list (list.length : Int)) (([] : List AA), 0)).bind fun y_6 =>
 some y_6
noncomputable def DQ (list : List AA) (least : Int) : Option ((List AA) × Int) :=
 (Ag list).bind fun y_1 =>
 if (!y_1) then
  some (([] : List AA), 1)
 else
  (Ek least 1 10000001).bind fun y_3 =>
  if (!y_3) then
   some (([] : List AA), 2)
  else
   (BV list least).bind fun y_5 =>
   some (y_5, 0)
noncomputable def KA (code : List UInt8) : Option Bool :=
 some (decide (4096 < (code.length : Int)))
noncomputable def DT (code : List UInt8) : Option Aw :=
 some (Aw.mk code 0 0)
noncomputable def EJ (s_ : Aw) : Option (Int × Aw) :=
 if (decide (s_.at_ < (s_.code_.length : Int))) then
  ck (BB s_.at_ s_.code_.length) <|
  if (decide ((IntKind.i64.wrap (s_.at_ + 1)) ≤ (s_.code_.length : Int))) then
   some (((s_.code_.getD s_.at_.toNat default).toNat : Int), (Aw.mk s_.code_ (IntKind.i64.wrap (s_.at_ + 1)) (IntKind.u64.wrap ((IntKind.u64.wrap ((IntKind.u64.wrap (s_.seed_ * 6364136223846793005)) + (IntKind.u64.wrap ((s_.code_.getD s_.at_.toNat default).toNat : Int)))) + 1442695040888963407))))
  else
   ck (Kg 40) <|
   some ((IntKind.i64.wrap (IntKind.u64.wrap (BitVec.ofInt (IntKind.bits .u64) ((IntKind.u64.wrap ((IntKind.u64.wrap ((IntKind.u64.wrap (s_.seed_ * 6364136223846793005)) + (IntKind.u64.wrap ((s_.code_.getD s_.at_.toNat default).toNat : Int)))) + 1442695040888963407)).fdiv (2 ^ (min 40 64))) &&& BitVec.ofInt (IntKind.bits .u64) 255).toNat)), (Aw.mk s_.code_ (IntKind.i64.wrap (s_.at_ + 1)) (IntKind.u64.wrap ((IntKind.u64.wrap ((IntKind.u64.wrap (s_.seed_ * 6364136223846793005)) + (IntKind.u64.wrap ((s_.code_.getD s_.at_.toNat default).toNat : Int)))) + 1442695040888963407))))
 else
  if (decide ((IntKind.i64.wrap (s_.at_ + 1)) ≤ (s_.code_.length : Int))) then
   some (0, (Aw.mk s_.code_ (IntKind.i64.wrap (s_.at_ + 1)) (IntKind.u64.wrap ((IntKind.u64.wrap ((IntKind.u64.wrap (s_.seed_ * 6364136223846793005)) + (IntKind.u64.wrap 0))) + 1442695040888963407))))
  else
   ck (Kg 40) <|
   some ((IntKind.i64.wrap (IntKind.u64.wrap (BitVec.ofInt (IntKind.bits .u64) ((IntKind.u64.wrap ((IntKind.u64.wrap ((IntKind.u64.wrap (s_.seed_ * 6364136223846793005)) + (IntKind.u64.wrap 0))) + 1442695040888963407)).fdiv (2 ^ (min 40 64))) &&& BitVec.ofInt (IntKind.bits .u64) 255).toNat)), (Aw.mk s_.code_ (IntKind.i64.wrap (s_.at_ + 1)) (IntKind.u64.wrap ((IntKind.u64.wrap ((IntKind.u64.wrap (s_.seed_ * 6364136223846793005)) + (IntKind.u64.wrap 0))) + 1442695040888963407))))
noncomputable def AK (s_ : Aw) (n : Int) : Option (Int × Aw) :=
 if (decide (n ≤ 1)) then
  some (0, s_)
 else
  (EJ s_).bind fun y_2 =>
  if (decide (200 < n)) then
   (EJ y_2.2).bind fun y_4 =>
   ck (nz n) <|
   some (((IntKind.i64.wrap ((IntKind.i64.wrap (y_2.1 * 256)) + y_4.1)).tmod n), y_4.2)
  else
   ck (nz n) <|
   some ((y_2.1.tmod n), y_2.2)
noncomputable def AP (s_ : Aw) (list : List Int) : Option (Int × Aw) :=
 (AK s_ (list.length : Int)).bind fun y_1 =>
 ck (BB y_1.1 list.length) <|
 some ((list.getD y_1.1.toNat default), y_1.2)
noncomputable def Dv  : (Aw × (List AA) × Int × Int) → Option ((Aw × (List AA) × Int × Int) ⊕ (Aw × (List AA)))
 | (s_, out, at_, k) =>
  if (decide (0 < k)) then
   (AK s_ 30).bind fun y_4 =>
   ck (Cr (out.length + ([(AA.mk at_ (IntKind.i64.wrap (at_ + y_4.1)))] : List AA).length) 16) <|
   (AK y_4.2 20).bind fun y_6 =>
   some (.inl (y_6.2, (out ++ ([(AA.mk at_ (IntKind.i64.wrap (at_ + y_4.1)))] : List AA)), (IntKind.i64.wrap ((IntKind.i64.wrap ((IntKind.i64.wrap (at_ + y_4.1)) + 1)) + y_6.1)), (IntKind.i64.wrap (k - 1))))
  else
   some (.inr (s_, out))
noncomputable def Ez (s_ : Aw) : Option ((List AA) × Aw) :=
 (AK s_ 40).bind fun y_1 =>
 (AK y_1.2 6).bind fun y_2 =>
 (AJ (Dv) (y_2.2, ([] : List AA), y_1.1, y_2.1)).bind fun y_7 =>
 some (y_7.2, y_7.1)
noncomputable def AS (s_ : Aw) (n : Int) : Option (Bool × Aw) :=
 (AK s_ n).bind fun y_1 =>
 some ((y_1.1 == 0), y_1.2)
noncomputable def Dw (s_ : Aw) : ((List AA) × Int) → Option (((List AA) × Int) ⊕ (List AA))
 | (list, k) =>
  if (decide (0 < k)) then
   ck (Cr (list.length + ([(AA.mk (IntKind.i64.wrap (4 * (list.length : Int))) (IntKind.i64.wrap ((IntKind.i64.wrap (4 * (list.length : Int))) + 1)))] : List AA).length) 16) <|
   some (.inl ((list ++ ([(AA.mk (IntKind.i64.wrap (4 * (list.length : Int))) (IntKind.i64.wrap ((IntKind.i64.wrap (4 * (list.length : Int))) + 1)))] : List AA)), (IntKind.i64.wrap (k - 1))))
  else
   some (.inr list)
noncomputable def DS (s_ : Aw) : Option ((List AA) × Aw) :=
 (Ez s_).bind fun y_1 =>
 (AS y_1.2 16).bind fun y_2 =>
 if y_2.1 then
  (AK y_2.2 2).bind fun y_4 =>
  (AJ (Dw y_4.2) (([] : List AA), (IntKind.i64.wrap (30 + y_4.1)))).bind fun y_7 =>
  if ((y_7.length : Int) == 0) then
   some (y_7, y_4.2)
  else
   (AK y_4.2 (y_7.length : Int)).bind fun y_9 =>
   ck (BB y_9.1 y_7.length) <|
   (AK y_9.2 20).bind fun y_11 =>
   if (y_11.1 == 0) then
    (AP y_11.2 ([(-1), 0, (y_7.getD y_9.1.toNat default).To, (IntKind.i64.wrap (((y_7.getD y_9.1.toNat default).To) + 1)), (-9223372036854775808)] : List Int)).bind fun y_13 =>
    some ((y_7.set y_9.1.toNat (AA.mk y_13.1 ((y_7.getD y_9.1.toNat default).To))), y_13.2)
   else
    if (y_11.1 == 1) then
     (AP y_11.2 ([(-1), (y_7.getD y_9.1.toNat default).From, 10000000, 10000001, 9223372036854775807] : List Int)).bind fun y_15 =>
     some ((y_7.set y_9.1.toNat (AA.mk ((y_7.getD y_9.1.toNat default).From) y_15.1)), y_15.2)
    else
     some (y_7, y_11.2)
 else
  if ((y_1.1.length : Int) == 0) then
   some (y_1.1, y_2.2)
  else
   (AK y_2.2 (y_1.1.length : Int)).bind fun y_17 =>
   ck (BB y_17.1 y_1.1.length) <|
   (AK y_17.2 20).bind fun y_19 =>
   if (y_19.1 == 0) then
    (AP y_19.2 ([(-1), 0, (y_1.1.getD y_17.1.toNat default).To, (IntKind.i64.wrap (((y_1.1.getD y_17.1.toNat default).To) + 1)), (-9223372036854775808)] : List Int)).bind fun y_21 =>
    some ((y_1.1.set y_17.1.toNat (AA.mk y_21.1 ((y_1.1.getD y_17.1.toNat default).To))), y_21.2)
   else
    if (y_19.1 == 1) then
     (AP y_19.2 ([(-1), (y_1.1.getD y_17.1.toNat default).From, 10000000, 10000001, 9223372036854775807] : List Int)).bind fun y_23 =>
     some ((y_1.1.set y_17.1.toNat (AA.mk ((y_1.1.getD y_17.1.toNat default).From) y_23.1)), y_23.2)
    else
     some (y_1.1, y_19.2)
noncomputable def EN (code : List UInt8) : Option ((List AA) × (List AA) × (List AA)) :=
 (DT code).bind fun y_1 =>
 (DS y_1).bind fun y_2 =>
 (DS y_2.2).bind fun y_3 =>
 (AS y_3.2 12).bind fun y_4 =>
 if y_4.1 then
  some (y_2.1, ([(AA.mk 0 10000000)] : List AA), y_3.1)
 else
  (DS y_4.2).bind fun y_6 =>
  some (y_2.1, y_3.1, y_6.1)
noncomputable def Co (list : List AA) : Option (List AA) :=
 ck (Cr (([] : List AA).length + list.length) 16) <|
 some (([] : List AA) ++ list)
noncomputable def Bq (s_ : List AA) : Option (List AA) :=
 some s_
noncomputable def FN (x : Int) : Option Bool :=
 some (!(x == x))
noncomputable def Ff (x : Int) (y : Int) : Option Int :=
 (FN x).bind fun y_1 =>
 (FN y).bind fun y_2 =>
 if y_1 then
  if y_2 then
   some 0
  else
   some (-1)
 else
  if y_2 then
   some 1
  else
   if (decide (x < y)) then
    some (-1)
   else
    if (decide (y < x)) then
     some 1
    else
     some 0
noncomputable def BP (a : AA) (b : AA) : Option Int :=
 (Ff a.From b.From).bind fun y_1 =>
 some y_1
noncomputable def BL (a : Int) (b : Int) (i : Int) : ((List AA) × Int) → Option (((List AA) × Int) ⊕ (List AA))
 | (data, j) =>
  ck (!(decide (a < j)) || BB j data.length) <|
  ck (!(decide (a < j)) || BB (IntKind.i64.wrap (j - 1)) data.length) <|
  ck (!(decide (a < j)) || (BP (data.getD j.toNat default) (data.getD (IntKind.i64.wrap (j - 1)).toNat default)).isSome) <|
  if ((decide (a < j)) && (decide (((BP (data.getD j.toNat default) (data.getD (IntKind.i64.wrap (j - 1)).toNat default)).getD default) < 0))) then
   ck (BB (IntKind.i64.wrap (j - 1)) data.length) <|
   ck (BB j data.length) <|
   some (.inl (((data.set j.toNat (data.getD (IntKind.i64.wrap (j - 1)).toNat default)).set ((IntKind.i64.wrap (j - 1)).toNat) (data.getD j.toNat default)), (IntKind.i64.wrap (j - 1))))
  else
   some (.inr data)
noncomputable def BM (a : Int) (b : Int) : ((List AA) × Int) → Option (((List AA) × Int) ⊕ (List AA))
 | (data, i) =>
  if (decide (i < b)) then
   (AJ (BL a b i) (data, i)).bind fun y_9 =>
   some (.inl (y_9, (IntKind.i64.wrap (i + 1))))
  else
   some (.inr data)
noncomputable def Ai (data : List AA) (a : Int) (b : Int) : Option (List AA) :=
 (AJ (BM a b) (data, (IntKind.i64.wrap (a + 1)))).bind fun y_10 =>
 ck (y_10.length == data.length) <|
 some y_10
noncomputable def BU (a : Int) (b : Int) (n : Int) : ((List AA) × Int) → Option (((List AA) × Int) ⊕ (List AA))
 | (data, i) =>
  if (decide (i < n)) then
   ck (BB (IntKind.i64.wrap (b + i)) data.length) <|
   ck (BB (IntKind.i64.wrap (a + i)) data.length) <|
   some (.inl (((data.set ((IntKind.i64.wrap (a + i)).toNat) (data.getD (IntKind.i64.wrap (b + i)).toNat default)).set ((IntKind.i64.wrap (b + i)).toNat) (data.getD (IntKind.i64.wrap (a + i)).toNat default)), (IntKind.i64.wrap (i + 1))))
  else
   some (.inr data)
noncomputable def Af (data : List AA) (a : Int) (b : Int) (n : Int) : Option (List AA) :=
 (AJ (BU a b n) (data, 0)).bind fun y_5 =>
 ck (y_5.length == data.length) <|
 some y_5
noncomputable def Bh (m : Int) : ((List AA) × Int × Int) → Option (((List AA) × Int × Int) ⊕ ((List AA) × Int))
 | (data, i, j) =>
  if (!(i == j)) then
   if (decide (j < i)) then
    (Af data (IntKind.i64.wrap (m - i)) m j).bind fun y_3 =>
    some (.inl (y_3, (IntKind.i64.wrap (i - j)), j))
   else
    (Af data (IntKind.i64.wrap (m - i)) (IntKind.i64.wrap ((IntKind.i64.wrap (m + j)) - i)) i).bind fun y_4 =>
    some (.inl (y_4, i, (IntKind.i64.wrap (j - i))))
  else
   some (.inr (data, i))
noncomputable def At (data : List AA) (a : Int) (m : Int) (b : Int) : Option (List AA) :=
 (AJ (Bh m) (data, (IntKind.i64.wrap (m - a)), (IntKind.i64.wrap (b - m)))).bind fun y_5 =>
 (Af y_5.1 (IntKind.i64.wrap (m - y_5.2)) m y_5.2).bind fun y_6 =>
 ck (y_6.length == data.length) <|
 some y_6
noncomputable def Be (data : List AA) (a : Int) : (Int × Int) → Option ((Int × Int) ⊕ Int)
 | (i, j) =>
  if (decide (i < j)) then
   ck (Kg 1) <|
   ck (BB (IntKind.i64.wrap ((IntKind.u64.wrap (IntKind.i64.wrap (i + j))).fdiv (2 ^ (min 1 64)))) data.length) <|
   ck (BB a data.length) <|
   (BP (data.getD (IntKind.i64.wrap ((IntKind.u64.wrap (IntKind.i64.wrap (i + j))).fdiv (2 ^ (min 1 64)))).toNat default) (data.getD a.toNat default)).bind fun y_6 =>
   if (decide (y_6 < 0)) then
    some (.inl ((IntKind.i64.wrap ((IntKind.i64.wrap ((IntKind.u64.wrap (IntKind.i64.wrap (i + j))).fdiv (2 ^ (min 1 64)))) + 1)), j))
   else
    some (.inl (i, (IntKind.i64.wrap ((IntKind.u64.wrap (IntKind.i64.wrap (i + j))).fdiv (2 ^ (min 1 64))))))
  else
   some (.inr i)
noncomputable def Bd (i : Int) : ((List AA) × Int) → Option (((List AA) × Int) ⊕ (List AA))
 | (data, k) =>
  if (decide (k < (IntKind.i64.wrap (i - 1)))) then
   ck (BB (IntKind.i64.wrap (k + 1)) data.length) <|
   ck (BB k data.length) <|
   some (.inl (((data.set k.toNat (data.getD (IntKind.i64.wrap (k + 1)).toNat default)).set ((IntKind.i64.wrap (k + 1)).toNat) (data.getD k.toNat default)), (IntKind.i64.wrap (k + 1))))
  else
   some (.inr data)
noncomputable def Bc (data : List AA) (m : Int) : (Int × Int) → Option ((Int × Int) ⊕ Int)
 | (i, j) =>
  if (decide (i < j)) then
   ck (Kg 1) <|
   ck (BB m data.length) <|
   ck (BB (IntKind.i64.wrap ((IntKind.u64.wrap (IntKind.i64.wrap (i + j))).fdiv (2 ^ (min 1 64)))) data.length) <|
   (BP (data.getD m.toNat default) (data.getD (IntKind.i64.wrap ((IntKind.u64.wrap (IntKind.i64.wrap (i + j))).fdiv (2 ^ (min 1 64)))).toNat default)).bind fun y_20 =>
   if (!(decide (y_20 < 0))) then
    some (.inl ((IntKind.i64.wrap ((IntKind.i64.wrap ((IntKind.u64.wrap (IntKind.i64.wrap (i + j))).fdiv (2 ^ (min 1 64)))) + 1)), j))
   else
    some (.inl (i, (IntKind.i64.wrap ((IntKind.u64.wrap (IntKind.i64.wrap (i + j))).fdiv (2 ^ (min 1 64))))))
  else
   some (.inr i)
noncomputable def Bb (i : Int) : ((List AA) × Int) → Option (((List AA) × Int) ⊕ (List AA))
 | (data, k) =>
  if (decide (i < k)) then
   ck (BB (IntKind.i64.wrap (k - 1)) data.length) <|
   ck (BB k data.length) <|
   some (.inl (((data.set k.toNat (data.getD (IntKind.i64.wrap (k - 1)).toNat default)).set ((IntKind.i64.wrap (k - 1)).toNat) (data.getD k.toNat default)), (IntKind.i64.wrap (k - 1))))
  else
   some (.inr data)
noncomputable def Ba (data : List AA) (a : Int) (m : Int) (b : Int) (mid : Int) (n : Int) (p : Int) : (Int × Int) → Option ((Int × Int) ⊕ Int)
 | (start, r) =>
  if (decide (start < r)) then
   ck (Kg 1) <|
   ck (BB (IntKind.i64.wrap (p - (IntKind.i64.wrap ((IntKind.u64.wrap (IntKind.i64.wrap (start + r))).fdiv (2 ^ (min 1 64)))))) data.length) <|
   ck (BB (IntKind.i64.wrap ((IntKind.u64.wrap (IntKind.i64.wrap (start + r))).fdiv (2 ^ (min 1 64)))) data.length) <|
   (BP (data.getD (IntKind.i64.wrap (p - (IntKind.i64.wrap ((IntKind.u64.wrap (IntKind.i64.wrap (start + r))).fdiv (2 ^ (min 1 64)))))).toNat default) (data.getD (IntKind.i64.wrap ((IntKind.u64.wrap (IntKind.i64.wrap (start + r))).fdiv (2 ^ (min 1 64)))).toNat default)).bind fun y_35 =>
   if (!(decide (y_35 < 0))) then
    some (.inl ((IntKind.i64.wrap ((IntKind.i64.wrap ((IntKind.u64.wrap (IntKind.i64.wrap (start + r))).fdiv (2 ^ (min 1 64)))) + 1)), r))
   else
    some (.inl (start, (IntKind.i64.wrap ((IntKind.u64.wrap (IntKind.i64.wrap (start + r))).fdiv (2 ^ (min 1 64))))))
  else
   some (.inr start)
noncomputable def BZ (data : List AA) (a : Int) (m : Int) (b : Int) (mid : Int) (n : Int) (p : Int) : (Int × Int) → Option ((Int × Int) ⊕ Int)
 | (start, r) =>
  if (decide (start < r)) then
   ck (Kg 1) <|
   ck (BB (IntKind.i64.wrap (p - (IntKind.i64.wrap ((IntKind.u64.wrap (IntKind.i64.wrap (start + r))).fdiv (2 ^ (min 1 64)))))) data.length) <|
   ck (BB (IntKind.i64.wrap ((IntKind.u64.wrap (IntKind.i64.wrap (start + r))).fdiv (2 ^ (min 1 64)))) data.length) <|
   (BP (data.getD (IntKind.i64.wrap (p - (IntKind.i64.wrap ((IntKind.u64.wrap (IntKind.i64.wrap (start + r))).fdiv (2 ^ (min 1 64)))))).toNat default) (data.getD (IntKind.i64.wrap ((IntKind.u64.wrap (IntKind.i64.wrap (start + r))).fdiv (2 ^ (min 1 64)))).toNat default)).bind fun y_63 =>
   if (!(decide (y_63 < 0))) then
    some (.inl ((IntKind.i64.wrap ((IntKind.i64.wrap ((IntKind.u64.wrap (IntKind.i64.wrap (start + r))).fdiv (2 ^ (min 1 64)))) + 1)), r))
   else
    some (.inl (start, (IntKind.i64.wrap ((IntKind.u64.wrap (IntKind.i64.wrap (start + r))).fdiv (2 ^ (min 1 64))))))
  else
   some (.inr start)
noncomputable def AG : Nat → (List AA) → Int → Int → Int → Option (List AA)
 | 0, _, _, _, _ => none
 | n_ + 1, data, a, m, b =>
  if ((IntKind.i64.wrap (m - a)) == 1) then
   (AJ (Be data a) (m, b)).bind fun y_8 =>
   (AJ (Bd y_8) (data, a)).bind fun y_13 =>
   ck (y_13.length == data.length) <|
   some y_13
  else
   if ((IntKind.i64.wrap (b - m)) == 1) then
    (AJ (Bc data m) (a, m)).bind fun y_22 =>
    (AJ (Bb y_22) (data, m)).bind fun y_27 =>
    ck (y_27.length == data.length) <|
    some y_27
   else
    ck (Kg 1) <|
    if (decide ((IntKind.i64.wrap ((IntKind.u64.wrap (IntKind.i64.wrap (a + b))).fdiv (2 ^ (min 1 64)))) < m)) then
     (AJ (Ba data a m b (IntKind.i64.wrap ((IntKind.u64.wrap (IntKind.i64.wrap (a + b))).fdiv (2 ^ (min 1 64)))) (IntKind.i64.wrap ((IntKind.i64.wrap ((IntKind.u64.wrap (IntKind.i64.wrap (a + b))).fdiv (2 ^ (min 1 64)))) + m)) (IntKind.i64.wrap ((IntKind.i64.wrap ((IntKind.i64.wrap ((IntKind.u64.wrap (IntKind.i64.wrap (a + b))).fdiv (2 ^ (min 1 64)))) + m)) - 1))) ((IntKind.i64.wrap ((IntKind.i64.wrap ((IntKind.i64.wrap ((IntKind.u64.wrap (IntKind.i64.wrap (a + b))).fdiv (2 ^ (min 1 64)))) + m)) - b)), (IntKind.i64.wrap ((IntKind.u64.wrap (IntKind.i64.wrap (a + b))).fdiv (2 ^ (min 1 64)))))).bind fun y_37 =>
     if ((decide (y_37 < m)) && (decide (m < (IntKind.i64.wrap ((IntKind.i64.wrap ((IntKind.i64.wrap ((IntKind.u64.wrap (IntKind.i64.wrap (a + b))).fdiv (2 ^ (min 1 64)))) + m)) - y_37))))) then
      (At data y_37 m (IntKind.i64.wrap ((IntKind.i64.wrap ((IntKind.i64.wrap ((IntKind.u64.wrap (IntKind.i64.wrap (a + b))).fdiv (2 ^ (min 1 64)))) + m)) - y_37))).bind fun y_39 =>
      if ((decide (a < y_37)) && (decide (y_37 < (IntKind.i64.wrap ((IntKind.u64.wrap (IntKind.i64.wrap (a + b))).fdiv (2 ^ (min 1 64))))))) then
       (AG n_ y_39 a y_37 (IntKind.i64.wrap ((IntKind.u64.wrap (IntKind.i64.wrap (a + b))).fdiv (2 ^ (min 1 64))))).bind fun y_41 =>
       if ((decide ((IntKind.i64.wrap ((IntKind.u64.wrap (IntKind.i64.wrap (a + b))).fdiv (2 ^ (min 1 64)))) < (IntKind.i64.wrap ((IntKind.i64.wrap ((IntKind.i64.wrap ((IntKind.u64.wrap (IntKind.i64.wrap (a + b))).fdiv (2 ^ (min 1 64)))) + m)) - y_37)))) && (decide ((IntKind.i64.wrap ((IntKind.i64.wrap ((IntKind.i64.wrap ((IntKind.u64.wrap (IntKind.i64.wrap (a + b))).fdiv (2 ^ (min 1 64)))) + m)) - y_37)) < b))) then
        (AG n_ y_41 (IntKind.i64.wrap ((IntKind.u64.wrap (IntKind.i64.wrap (a + b))).fdiv (2 ^ (min 1 64)))) (IntKind.i64.wrap ((IntKind.i64.wrap ((IntKind.i64.wrap ((IntKind.u64.wrap (IntKind.i64.wrap (a + b))).fdiv (2 ^ (min 1 64)))) + m)) - y_37)) b).bind fun y_43 =>
        ck (y_43.length == data.length) <|
        some y_43
       else
        ck (y_41.length == data.length) <|
        some y_41
      else
       if ((decide ((IntKind.i64.wrap ((IntKind.u64.wrap (IntKind.i64.wrap (a + b))).fdiv (2 ^ (min 1 64)))) < (IntKind.i64.wrap ((IntKind.i64.wrap ((IntKind.i64.wrap ((IntKind.u64.wrap (IntKind.i64.wrap (a + b))).fdiv (2 ^ (min 1 64)))) + m)) - y_37)))) && (decide ((IntKind.i64.wrap ((IntKind.i64.wrap ((IntKind.i64.wrap ((IntKind.u64.wrap (IntKind.i64.wrap (a + b))).fdiv (2 ^ (min 1 64)))) + m)) - y_37)) < b))) then
        (AG n_ y_39 (IntKind.i64.wrap ((IntKind.u64.wrap (IntKind.i64.wrap (a + b))).fdiv (2 ^ (min 1 64)))) (IntKind.i64.wrap ((IntKind.i64.wrap ((IntKind.i64.wrap ((IntKind.u64.wrap (IntKind.i64.wrap (a + b))).fdiv (2 ^ (min 1 64)))) + m)) - y_37)) b).bind fun y_47 =>
        ck (y_47.length == data.length) <|
        some y_47
       else
        ck (y_39.length == data.length) <|
        some y_39
     else
      if ((decide (a < y_37)) && (decide (y_37 < (IntKind.i64.wrap ((IntKind.u64.wrap (IntKind.i64.wrap (a + b))).fdiv (2 ^ (min 1 64))))))) then
       (AG n_ data a y_37 (IntKind.i64.wrap ((IntKind.u64.wrap (IntKind.i64.wrap (a + b))).fdiv (2 ^ (min 1 64))))).bind fun y_51 =>
       if ((decide ((IntKind.i64.wrap ((IntKind.u64.wrap (IntKind.i64.wrap (a + b))).fdiv (2 ^ (min 1 64)))) < (IntKind.i64.wrap ((IntKind.i64.wrap ((IntKind.i64.wrap ((IntKind.u64.wrap (IntKind.i64.wrap (a + b))).fdiv (2 ^ (min 1 64)))) + m)) - y_37)))) && (decide ((IntKind.i64.wrap ((IntKind.i64.wrap ((IntKind.i64.wrap ((IntKind.u64.wrap (IntKind.i64.wrap (a + b))).fdiv (2 ^ (min 1 64)))) + m)) - y_37)) < b))) then
        (AG n_ y_51 (IntKind.i64.wrap ((IntKind.u64.wrap (IntKind.i64.wrap (a + b))).fdiv (2 ^ (min 1 64)))) (IntKind.i64.wrap ((IntKind.i64.wrap ((IntKind.i64.wrap ((IntKind.u64.wrap (IntKind.i64.wrap (a + b))).fdiv (2 ^ (min 1 64)))) + m)) - y_37)) b).bind fun y_53 =>
        ck (y_53.length == data.length) <|
        some y_53
       else
        ck (y_51.length == data.length) <|
        some y_51
      else
       if ((decide ((IntKind.i64.wrap ((IntKind.u64.wrap (IntKind.i64.wrap (a + b))).fdiv (2 ^ (min 1 64)))) < (IntKind.i64.wrap ((IntKind.i64.wrap ((IntKind.i64.wrap ((IntKind.u64.wrap (IntKind.i64.wrap (a + b))).fdiv (2 ^ (min 1 64)))) + m)) - y_37)))) && (decide ((IntKind.i64.wrap ((IntKind.i64.wrap ((IntKind.i64.wrap ((IntKind.u64.wrap (IntKind.i64.wrap (a + b))).fdiv (2 ^ (min 1 64)))) + m)) - y_37)) < b))) then
        (AG n_ data (IntKind.i64.wrap ((IntKind.u64.wrap (IntKind.i64.wrap (a + b))).fdiv (2 ^ (min 1 64)))) (IntKind.i64.wrap ((IntKind.i64.wrap ((IntKind.i64.wrap ((IntKind.u64.wrap (IntKind.i64.wrap (a + b))).fdiv (2 ^ (min 1 64)))) + m)) - y_37)) b).bind fun y_57 =>
        ck (y_57.length == data.length) <|
        some y_57
       else
        some data
    else
     (AJ (BZ data a m b (IntKind.i64.wrap ((IntKind.u64.wrap (IntKind.i64.wrap (a + b))).fdiv (2 ^ (min 1 64)))) (IntKind.i64.wrap ((IntKind.i64.wrap ((IntKind.u64.wrap (IntKind.i64.wrap (a + b))).fdiv (2 ^ (min 1 64)))) + m)) (IntKind.i64.wrap ((IntKind.i64.wrap ((IntKind.i64.wrap ((IntKind.u64.wrap (IntKind.i64.wrap (a + b))).fdiv (2 ^ (min 1 64)))) + m)) - 1))) (a, m)).bind fun y_65 =>
     if ((decide (y_65 < m)) && (decide (m < (IntKind.i64.wrap ((IntKind.i64.wrap ((IntKind.i64.wrap ((IntKind.u64.wrap (IntKind.i64.wrap (a + b))).fdiv (2 ^ (min 1 64)))) + m)) - y_65))))) then
      (At data y_65 m (IntKind.i64.wrap ((IntKind.i64.wrap ((IntKind.i64.wrap ((IntKind.u64.wrap (IntKind.i64.wrap (a + b))).fdiv (2 ^ (min 1 64)))) + m)) - y_65))).bind fun y_67 =>
      if ((decide (a < y_65)) && (decide (y_65 < (IntKind.i64.wrap ((IntKind.u64.wrap (IntKind.i64.wrap (a + b))).fdiv (2 ^ (min 1 64))))))) then
       (AG n_ y_67 a y_65 (IntKind.i64.wrap ((IntKind.u64.wrap (IntKind.i64.wrap (a + b))).fdiv (2 ^ (min 1 64))))).bind fun y_69 =>
       if ((decide ((IntKind.i64.wrap ((IntKind.u64.wrap (IntKind.i64.wrap (a + b))).fdiv (2 ^ (min 1 64)))) < (IntKind.i64.wrap ((IntKind.i64.wrap ((IntKind.i64.wrap ((IntKind.u64.wrap (IntKind.i64.wrap (a + b))).fdiv (2 ^ (min 1 64)))) + m)) - y_65)))) && (decide ((IntKind.i64.wrap ((IntKind.i64.wrap ((IntKind.i64.wrap ((IntKind.u64.wrap (IntKind.i64.wrap (a + b))).fdiv (2 ^ (min 1 64)))) + m)) - y_65)) < b))) then
        (AG n_ y_69 (IntKind.i64.wrap ((IntKind.u64.wrap (IntKind.i64.wrap (a + b))).fdiv (2 ^ (min 1 64)))) (IntKind.i64.wrap ((IntKind.i64.wrap ((IntKind.i64.wrap ((IntKind.u64.wrap (IntKind.i64.wrap (a + b))).fdiv (2 ^ (min 1 64)))) + m)) - y_65)) b).bind fun y_71 =>
        ck (y_71.length == data.length) <|
        some y_71
       else
        ck (y_69.length == data.length) <|
        some y_69
      else
       if ((decide ((IntKind.i64.wrap ((IntKind.u64.wrap (IntKind.i64.wrap (a + b))).fdiv (2 ^ (min 1 64)))) < (IntKind.i64.wrap ((IntKind.i64.wrap ((IntKind.i64.wrap ((IntKind.u64.wrap (IntKind.i64.wrap (a + b))).fdiv (2 ^ (min 1 64)))) + m)) - y_65)))) && (decide ((IntKind.i64.wrap ((IntKind.i64.wrap ((IntKind.i64.wrap ((IntKind.u64.wrap (IntKind.i64.wrap (a + b))).fdiv (2 ^ (min 1 64)))) + m)) - y_65)) < b))) then
        (AG n_ y_67 (IntKind.i64.wrap ((IntKind.u64.wrap (IntKind.i64.wrap (a + b))).fdiv (2 ^ (min 1 64)))) (IntKind.i64.wrap ((IntKind.i64.wrap ((IntKind.i64.wrap ((IntKind.u64.wrap (IntKind.i64.wrap (a + b))).fdiv (2 ^ (min 1 64)))) + m)) - y_65)) b).bind fun y_75 =>
        ck (y_75.length == data.length) <|
        some y_75
       else
        ck (y_67.length == data.length) <|
        some y_67
     else
      if ((decide (a < y_65)) && (decide (y_65 < (IntKind.i64.wrap ((IntKind.u64.wrap (IntKind.i64.wrap (a + b))).fdiv (2 ^ (min 1 64))))))) then
       (AG n_ data a y_65 (IntKind.i64.wrap ((IntKind.u64.wrap (IntKind.i64.wrap (a + b))).fdiv (2 ^ (min 1 64))))).bind fun y_79 =>
       if ((decide ((IntKind.i64.wrap ((IntKind.u64.wrap (IntKind.i64.wrap (a + b))).fdiv (2 ^ (min 1 64)))) < (IntKind.i64.wrap ((IntKind.i64.wrap ((IntKind.i64.wrap ((IntKind.u64.wrap (IntKind.i64.wrap (a + b))).fdiv (2 ^ (min 1 64)))) + m)) - y_65)))) && (decide ((IntKind.i64.wrap ((IntKind.i64.wrap ((IntKind.i64.wrap ((IntKind.u64.wrap (IntKind.i64.wrap (a + b))).fdiv (2 ^ (min 1 64)))) + m)) - y_65)) < b))) then
        (AG n_ y_79 (IntKind.i64.wrap ((IntKind.u64.wrap (IntKind.i64.wrap (a + b))).fdiv (2 ^ (min 1 64)))) (IntKind.i64.wrap ((IntKind.i64.wrap ((IntKind.i64.wrap ((IntKind.u64.wrap (IntKind.i64.wrap (a + b))).fdiv (2 ^ (min 1 64)))) + m)) - y_65)) b).bind fun y_81 =>
        ck (y_81.length == data.length) <|
        some y_81
       else
        ck (y_79.length == data.length) <|
        some y_79
      else
       if ((decide ((IntKind.i64.wrap ((IntKind.u64.wrap (IntKind.i64.wrap (a + b))).fdiv (2 ^ (min 1 64)))) < (IntKind.i64.wrap ((IntKind.i64.wrap ((IntKind.i64.wrap ((IntKind.u64.wrap (IntKind.i64.wrap (a + b))).fdiv (2 ^ (min 1 64)))) + m)) - y_65)))) && (decide ((IntKind.i64.wrap ((IntKind.i64.wrap ((IntKind.i64.wrap ((IntKind.u64.wrap (IntKind.i64.wrap (a + b))).fdiv (2 ^ (min 1 64)))) + m)) - y_65)) < b))) then
        (AG n_ data (IntKind.i64.wrap ((IntKind.u64.wrap (IntKind.i64.wrap (a + b))).fdiv (2 ^ (min 1 64)))) (IntKind.i64.wrap ((IntKind.i64.wrap ((IntKind.i64.wrap ((IntKind.u64.wrap (IntKind.i64.wrap (a + b))).fdiv (2 ^ (min 1 64)))) + m)) - y_65)) b).bind fun y_85 =>
        ck (y_85.length == data.length) <|
        some y_85
       else
        some data
noncomputable def BG (data : List AA) (a : Int) (m : Int) (b : Int) : Option (List AA) := AG 64 data a m b
noncomputable def Bg (n : Int) (blockSize : Int) : ((List AA) × Int × Int) → Option (((List AA) × Int × Int) ⊕ ((List AA) × Int))
 | (data, a, b) =>
  if (decide (b ≤ n)) then
   (Ai data a b).bind fun y_2 =>
   some (.inl (y_2, b, (IntKind.i64.wrap (b + blockSize))))
  else
   some (.inr (data, a))
noncomputable def Am (n : Int) (blockSize : Int) : ((List AA) × Int × Int) → Option (((List AA) × Int × Int) ⊕ ((List AA) × Int))
 | (data, a, b) =>
  if (decide (b ≤ n)) then
   (BG data a (IntKind.i64.wrap (a + blockSize)) b).bind fun y_7 =>
   some (.inl (y_7, b, (IntKind.i64.wrap (b + (IntKind.i64.wrap (2 * blockSize))))))
  else
   some (.inr (data, a))
noncomputable def Ao (n : Int) : ((List AA) × Int) → Option (((List AA) × Int) ⊕ (List AA))
 | (data, blockSize) =>
  if (decide (blockSize < n)) then
   (AJ (Am n blockSize) (data, 0, (IntKind.i64.wrap (2 * blockSize)))).bind fun y_8 =>
   if (decide ((IntKind.i64.wrap (y_8.2 + blockSize)) < n)) then
    (BG y_8.1 y_8.2 (IntKind.i64.wrap (y_8.2 + blockSize)) n).bind fun y_10 =>
    some (.inl (y_10, (IntKind.i64.wrap (blockSize * 2))))
   else
    some (.inl (y_8.1, (IntKind.i64.wrap (blockSize * 2))))
  else
   some (.inr data)
noncomputable def As (data : List AA) (n : Int) : Option (List AA) :=
 (AJ (Bg n 20) (data, 0, 20)).bind fun y_3 =>
 (Ai y_3.1 y_3.2 n).bind fun y_4 =>
 (AJ (Ao n) (y_4, 20)).bind fun y_11 =>
 ck (y_11.length == data.length) <|
 some y_11
noncomputable def Aq (x : List AA) : Option (List AA) :=
 (As x (x.length : Int)).bind fun y_1 =>
 ck (y_1.length == x.length) <|
 some y_1
noncomputable def AQ (seq_c0 : List AA) : Option (List AA) :=
 (OP seq_c0).bind fun y_1 =>
 (Aq y_1).bind fun y_2 =>
 some y_2
noncomputable def Bw (t11 : List AA) (t12 : Int) : ((List AA) × Int) → Option (((List AA) × Int) ⊕ (List AA))
 | (out, t13) =>
  if (decide (t13 < t12)) then
   ck (BB t13 t11.length) <|
   ck (!(decide (0 ≤ (IntKind.i64.wrap ((out.length : Int) - 1)))) || BB (IntKind.i64.wrap ((out.length : Int) - 1)) out.length) <|
   if ((decide (0 ≤ (IntKind.i64.wrap ((out.length : Int) - 1)))) && (decide (((t11.getD t13.toNat default).From) ≤ (IntKind.i64.wrap (((out.getD (IntKind.i64.wrap ((out.length : Int) - 1)).toNat default).To) + 1))))) then
    ck (BB (IntKind.i64.wrap ((out.length : Int) - 1)) out.length) <|
    some (.inl ((out.set ((IntKind.i64.wrap ((out.length : Int) - 1)).toNat) (AA.mk ((out.getD (IntKind.i64.wrap ((out.length : Int) - 1)).toNat default).From) (if ((out.getD (IntKind.i64.wrap ((out.length : Int) - 1)).toNat default).To) < ((t11.getD t13.toNat default).To) then ((t11.getD t13.toNat default).To) else ((out.getD (IntKind.i64.wrap ((out.length : Int) - 1)).toNat default).To)))), (IntKind.i64.wrap (t13 + 1))))
   else
    ck (Cr (out.length + ([(t11.getD t13.toNat default)] : List AA).length) 16) <|
    some (.inl ((out ++ ([(t11.getD t13.toNat default)] : List AA)), (IntKind.i64.wrap (t13 + 1))))
  else
   some (.inr out)
noncomputable def GC (list : List AA) : Option (List AA) :=
 (Bq list).bind fun y_1 =>
 (AQ y_1).bind fun y_2 =>
 (AJ (Bw y_2 (y_2.length : Int)) (([] : List AA), 0)).bind fun y_9 =>
 some y_9
noncomputable def Db (b : List AA) (x : AA) (t13 : List AA) (t14 : Int) (t15 : Int) (t19 : List AA) (t20 : Int) : ((List AA) × Int) → Option (((List AA) × Int) ⊕ (List AA))
 | (out, t21) =>
  if (decide (t21 < t20)) then
   ck (BB t21 t19.length) <|
   if (decide ((if x.From < ((t19.getD t21.toNat default).From) then ((t19.getD t21.toNat default).From) else x.From) ≤ (if ((t19.getD t21.toNat default).To) < x.To then ((t19.getD t21.toNat default).To) else x.To))) then
    ck (Cr (out.length + ([(AA.mk (if x.From < ((t19.getD t21.toNat default).From) then ((t19.getD t21.toNat default).From) else x.From) (if ((t19.getD t21.toNat default).To) < x.To then ((t19.getD t21.toNat default).To) else x.To))] : List AA).length) 16) <|
    some (.inl ((out ++ ([(AA.mk (if x.From < ((t19.getD t21.toNat default).From) then ((t19.getD t21.toNat default).From) else x.From) (if ((t19.getD t21.toNat default).To) < x.To then ((t19.getD t21.toNat default).To) else x.To))] : List AA)), (IntKind.i64.wrap (t21 + 1))))
   else
    some (.inl (out, (IntKind.i64.wrap (t21 + 1))))
  else
   some (.inr out)
noncomputable def Ea (b : List AA) (t13 : List AA) (t14 : Int) : ((List AA) × Int) → Option (((List AA) × Int) ⊕ (List AA))
 | (out, t15) =>
  if (decide (t15 < t14)) then
   ck (BB t15 t13.length) <|
   (AJ (Db b (t13.getD t15.toNat default) t13 t14 t15 b (b.length : Int)) (out, 0)).bind fun y_7 =>
   some (.inl (y_7, (IntKind.i64.wrap (t15 + 1))))
  else
   some (.inr out)
noncomputable def HO (a : List AA) (b : List AA) : Option (List AA) :=
 (AJ (Ea b a (a.length : Int)) (([] : List AA), 0)).bind fun y_8 =>
 (GC y_8).bind fun y_9 =>
 some y_9
noncomputable def CU (a : List AA) (t11 : List AA) (t12 : Int) : ((List AA) × Int × Int) → Option (((List AA) × Int × Int) ⊕ ((List AA) × Int))
 | (rest_, from_, t13) =>
  if (decide (t13 < t12)) then
   ck (BB t13 t11.length) <|
   if (decide (from_ < ((t11.getD t13.toNat default).From))) then
    ck (Cr (rest_.length + ([(AA.mk from_ (IntKind.i64.wrap (((t11.getD t13.toNat default).From) - 1)))] : List AA).length) 16) <|
    some (.inl ((rest_ ++ ([(AA.mk from_ (IntKind.i64.wrap (((t11.getD t13.toNat default).From) - 1)))] : List AA)), (IntKind.i64.wrap (((t11.getD t13.toNat default).To) + 1)), (IntKind.i64.wrap (t13 + 1))))
   else
    some (.inl (rest_, (IntKind.i64.wrap (((t11.getD t13.toNat default).To) + 1)), (IntKind.i64.wrap (t13 + 1))))
  else
   some (.inr (rest_, from_))
noncomputable def Gx (a : List AA) (b : List AA) : Option (List AA) :=
 (GC b).bind fun y_1 =>
 (AJ (CU a y_1 (y_1.length : Int)) (([] : List AA), 0, 0)).bind fun y_6 =>
 if (decide (y_6.2 ≤ 10000000)) then
  ck (Cr (y_6.1.length + ([(AA.mk y_6.2 10000000)] : List AA).length) 16) <|
  (HO a (y_6.1 ++ ([(AA.mk y_6.2 10000000)] : List AA))).bind fun y_9 =>
  some y_9
 else
  (HO a y_6.1).bind fun y_10 =>
  some y_10
noncomputable def GS (list : List AA) : Option ((List AA) × Int) :=
 if (decide (30 < (list.length : Int))) then
  some (([] : List AA), 5)
 else
  some (list, 0)
noncomputable def Fo (nights : List AA) (moon : List AA) (clouds : List AA) : Option ((List AA) × Int) :=
 (Ag nights).bind fun y_1 =>
 ck (!(!(!y_1)) || (Ag moon).isSome) <|
 ck (!(!((!y_1) || (!((Ag moon).getD default)))) || (Ag clouds).isSome) <|
 if (((!y_1) || (!((Ag moon).getD default))) || (!((Ag clouds).getD default))) then
  some (([] : List AA), 1)
 else
  (Co moon).bind fun y_5 =>
  ck (Cr (y_5.length + clouds.length) 16) <|
  (Gx nights (y_5 ++ clouds)).bind fun y_7 =>
  if (((y_7.length : Int) == 0) && (decide (0 < (nights.length : Int)))) then
   some (([] : List AA), 10)
  else
   (GS y_7).bind fun y_9 =>
   some (y_9.1, y_9.2)
noncomputable def CX (n : Int) (low : Int) (high : Int) : Option Bool :=
 some ((decide (low ≤ n)) && (decide (n ≤ high)))
noncomputable def FA (t : Int) : Option Bool :=
 (CX t 0 10000000).bind fun y_1 =>
 some y_1
noncomputable def Cu (list : List AA) : Int → Option (Int ⊕ (Unit ⊕ Bool))
 | i =>
  if (decide (i < (list.length : Int))) then
   ck (BB i list.length) <|
   (FA ((list.getD i.toNat default).From)).bind fun y_3 =>
   ck (!(!(!y_3)) || (FA ((list.getD i.toNat default).To)).isSome) <|
   ck (!((!(((!y_3) || (!((FA ((list.getD i.toNat default).To)).getD default))) || (decide (((list.getD i.toNat default).To) < ((list.getD i.toNat default).From))))) && (decide (0 < i))) || BB (IntKind.i64.wrap (i - 1)) list.length) <|
   if ((((!y_3) || (!((FA ((list.getD i.toNat default).To)).getD default))) || (decide (((list.getD i.toNat default).To) < ((list.getD i.toNat default).From)))) || ((decide (0 < i)) && (decide (((list.getD i.toNat default).From) ≤ ((list.getD (IntKind.i64.wrap (i - 1)).toNat default).To))))) then
    some (.inr (.inr false))
   else
    some (.inl (IntKind.i64.wrap (i + 1)))
  else
   some (.inr (.inl ()))
noncomputable def Ck (list : List AA) : Option Bool :=
 (AJ (Cu list) 0).bind fun y_7 =>
 match y_7 with
 | .inl y_7a =>
  some (decide ((list.length : Int) ≤ 30))
 | .inr y_7b =>
  some y_7b
noncomputable def En (list : List Int) (n : Int) : ((List Int) × Bool × Int) → Option (((List Int) × Bool × Int) ⊕ ((List Int) × Bool))
 | (out, done, i) =>
  if (decide (i < (list.length : Int))) then
   ck (!(!done) || BB i list.length) <|
   if ((!done) && (decide (n ≤ (list.getD i.toNat default)))) then
    ck (BB i list.length) <|
    if (decide (n < (list.getD i.toNat default))) then
     ck (Cr (out.length + ([n] : List Int).length) 8) <|
     ck (Cr ((out ++ ([n] : List Int)).length + ([(list.getD i.toNat default)] : List Int).length) 8) <|
     some (.inl (((out ++ ([n] : List Int)) ++ ([(list.getD i.toNat default)] : List Int)), true, (IntKind.i64.wrap (i + 1))))
    else
     ck (Cr (out.length + ([(list.getD i.toNat default)] : List Int).length) 8) <|
     some (.inl ((out ++ ([(list.getD i.toNat default)] : List Int)), true, (IntKind.i64.wrap (i + 1))))
   else
    ck (BB i list.length) <|
    ck (Cr (out.length + ([(list.getD i.toNat default)] : List Int).length) 8) <|
    some (.inl ((out ++ ([(list.getD i.toNat default)] : List Int)), done, (IntKind.i64.wrap (i + 1))))
  else
   some (.inr (out, done))
noncomputable def EH (list : List Int) (n : Int) : Option (List Int) :=
 (AJ (En list n) (([] : List Int), false, 0)).bind fun y_11 =>
 if (!y_11.2) then
  ck (Cr (y_11.1.length + ([n] : List Int).length) 8) <|
  some (y_11.1 ++ ([n] : List Int))
 else
  some y_11.1
noncomputable def FO (list : List AA) (t : Int) : Int → Option (Int ⊕ (Unit ⊕ Bool))
 | i =>
  if (decide (i < (list.length : Int))) then
   ck (BB i list.length) <|
   (CX t ((list.getD i.toNat default).From) ((list.getD i.toNat default).To)).bind fun y_3 =>
   if y_3 then
    some (.inr (.inr true))
   else
    some (.inl (IntKind.i64.wrap (i + 1)))
  else
   some (.inr (.inl ()))
noncomputable def HL (list : List AA) (t : Int) : Option Bool :=
 (AJ (FO list t) 0).bind fun y_5 =>
 match y_5 with
 | .inl y_5a =>
  some false
 | .inr y_5b =>
  some y_5b
noncomputable def FJ (a : List AA) (b : List AA) (rule : Int) : ((List Int) × Int) → Option (((List Int) × Int) ⊕ (List Int))
 | (cuts, i) =>
  if (decide (i < (a.length : Int))) then
   ck (BB i a.length) <|
   (EH cuts ((a.getD i.toNat default).From)).bind fun y_3 =>
   (EH y_3 (IntKind.i64.wrap (((a.getD i.toNat default).To) + 1))).bind fun y_4 =>
   some (.inl (y_4, (IntKind.i64.wrap (i + 1))))
  else
   some (.inr cuts)
noncomputable def FI (a : List AA) (b : List AA) (rule : Int) : ((List Int) × Int) → Option (((List Int) × Int) ⊕ (List Int))
 | (cuts, i) =>
  if (decide (i < (b.length : Int))) then
   ck (BB i b.length) <|
   (EH cuts ((b.getD i.toNat default).From)).bind fun y_8 =>
   (EH y_8 (IntKind.i64.wrap (((b.getD i.toNat default).To) + 1))).bind fun y_9 =>
   some (.inl (y_9, (IntKind.i64.wrap (i + 1))))
  else
   some (.inr cuts)
noncomputable def BW (a : List AA) (b : List AA) (rule : Int) (cuts : List Int) : ((List AA) × Int) → Option (((List AA) × Int) ⊕ (List AA))
 | (out, i) =>
  if (decide ((IntKind.i64.wrap (i + 1)) < (cuts.length : Int))) then
   ck (BB i cuts.length) <|
   (HL a (cuts.getD i.toNat default)).bind fun y_13 =>
   (HL b (cuts.getD i.toNat default)).bind fun y_14 =>
   if (((((rule == 1) && (!y_13)) && (!y_14)) || ((rule == 2) && ((!y_13) || (!y_14)))) || ((rule == 3) && ((!y_13) || y_14))) then
    some (.inl (out, (IntKind.i64.wrap (i + 1))))
   else
    ck (!(decide (0 < (out.length : Int))) || BB (IntKind.i64.wrap ((out.length : Int) - 1)) out.length) <|
    if ((decide (0 < (out.length : Int))) && ((IntKind.i64.wrap (((out.getD (IntKind.i64.wrap ((out.length : Int) - 1)).toNat default).To) + 1)) == (cuts.getD i.toNat default))) then
     ck (BB (IntKind.i64.wrap ((out.length : Int) - 1)) out.length) <|
     ck (BB (IntKind.i64.wrap (i + 1)) cuts.length) <|
     some (.inl ((out.set ((IntKind.i64.wrap ((out.length : Int) - 1)).toNat) (AA.mk ((out.getD (IntKind.i64.wrap ((out.length : Int) - 1)).toNat default).From) (IntKind.i64.wrap ((cuts.getD (IntKind.i64.wrap (i + 1)).toNat default) - 1)))), (IntKind.i64.wrap (i + 1))))
    else
     ck (BB (IntKind.i64.wrap (i + 1)) cuts.length) <|
     ck (Cr (out.length + ([(AA.mk (cuts.getD i.toNat default) (IntKind.i64.wrap ((cuts.getD (IntKind.i64.wrap (i + 1)).toNat default) - 1)))] : List AA).length) 16) <|
     some (.inl ((out ++ ([(AA.mk (cuts.getD i.toNat default) (IntKind.i64.wrap ((cuts.getD (IntKind.i64.wrap (i + 1)).toNat default) - 1)))] : List AA)), (IntKind.i64.wrap (i + 1))))
  else
   some (.inr out)
noncomputable def Fy (a : List AA) (b : List AA) (rule : Int) : Option (List AA) :=
 (AJ (FJ a b rule) (([] : List Int), 0)).bind fun y_5 =>
 (AJ (FI a b rule) (y_5, 0)).bind fun y_10 =>
 (AJ (BW a b rule y_10) (([] : List AA), 0)).bind fun y_22 =>
 some y_22
noncomputable def Fi (nights : List AA) (moon : List AA) (clouds : List AA) : Option ((List AA) × Int) :=
 (Ck nights).bind fun y_1 =>
 ck (!(!(!y_1)) || (Ck moon).isSome) <|
 ck (!(!((!y_1) || (!((Ck moon).getD default)))) || (Ck clouds).isSome) <|
 if (((!y_1) || (!((Ck moon).getD default))) || (!((Ck clouds).getD default))) then
  some (([] : List AA), 1)
 else
  (Fy nights moon 3).bind fun y_5 =>
  (Fy y_5 clouds 3).bind fun y_6 =>
  if (((y_6.length : Int) == 0) && (decide (0 < (nights.length : Int)))) then
   some (([] : List AA), 10)
  else
   if (decide (30 < (y_6.length : Int))) then
    some (([] : List AA), 5)
   else
    some (y_6, 0)
noncomputable def Dz (code : List UInt8) : Option (Int × Int × Int × Int) :=
 (DT code).bind fun y_1 =>
 (AK y_1 900).bind fun y_2 =>
 (AS y_2.2 8).bind fun y_3 =>
 if y_3.1 then
  (AP y_3.2 ([(-1), 0, 980, 999, 1000] : List Int)).bind fun y_5 =>
  (AK y_5.2 8).bind fun y_6 =>
  (AS y_6.2 10).bind fun y_7 =>
  if y_7.1 then
   (AP y_7.2 ([(-1), 0, 30, 31] : List Int)).bind fun y_9 =>
   (AK y_9.2 2000).bind fun y_10 =>
   (AS y_10.2 12).bind fun y_11 =>
   if y_11.1 then
    (AP y_11.2 ([(-1), 0, 1, 9999, 10000] : List Int)).bind fun y_13 =>
    (AS y_13.2 12).bind fun y_14 =>
    if y_14.1 then
     (AP y_14.2 ([(-1), 0, (IntKind.i64.wrap (y_13.1 - 1)), y_13.1, 10000] : List Int)).bind fun y_16 =>
     some (y_5.1, y_9.1, y_13.1, y_16.1)
    else
     (AK y_14.2 2000).bind fun y_17 =>
     some (y_5.1, y_9.1, y_13.1, (IntKind.i64.wrap (1000 + y_17.1)))
   else
    (AS y_11.2 12).bind fun y_18 =>
    if y_18.1 then
     (AP y_18.2 ([(-1), 0, (IntKind.i64.wrap ((IntKind.i64.wrap (7000 + y_10.1)) - 1)), (IntKind.i64.wrap (7000 + y_10.1)), 10000] : List Int)).bind fun y_20 =>
     some (y_5.1, y_9.1, (IntKind.i64.wrap (7000 + y_10.1)), y_20.1)
    else
     (AK y_18.2 2000).bind fun y_21 =>
     some (y_5.1, y_9.1, (IntKind.i64.wrap (7000 + y_10.1)), (IntKind.i64.wrap (1000 + y_21.1)))
  else
   (AK y_7.2 2000).bind fun y_22 =>
   (AS y_22.2 12).bind fun y_23 =>
   if y_23.1 then
    (AP y_23.2 ([(-1), 0, 1, 9999, 10000] : List Int)).bind fun y_25 =>
    (AS y_25.2 12).bind fun y_26 =>
    if y_26.1 then
     (AP y_26.2 ([(-1), 0, (IntKind.i64.wrap (y_25.1 - 1)), y_25.1, 10000] : List Int)).bind fun y_28 =>
     some (y_5.1, y_6.1, y_25.1, y_28.1)
    else
     (AK y_26.2 2000).bind fun y_29 =>
     some (y_5.1, y_6.1, y_25.1, (IntKind.i64.wrap (1000 + y_29.1)))
   else
    (AS y_23.2 12).bind fun y_30 =>
    if y_30.1 then
     (AP y_30.2 ([(-1), 0, (IntKind.i64.wrap ((IntKind.i64.wrap (7000 + y_22.1)) - 1)), (IntKind.i64.wrap (7000 + y_22.1)), 10000] : List Int)).bind fun y_32 =>
     some (y_5.1, y_6.1, (IntKind.i64.wrap (7000 + y_22.1)), y_32.1)
    else
     (AK y_30.2 2000).bind fun y_33 =>
     some (y_5.1, y_6.1, (IntKind.i64.wrap (7000 + y_22.1)), (IntKind.i64.wrap (1000 + y_33.1)))
 else
  (AK y_3.2 8).bind fun y_34 =>
  (AS y_34.2 10).bind fun y_35 =>
  if y_35.1 then
   (AP y_35.2 ([(-1), 0, 30, 31] : List Int)).bind fun y_37 =>
   (AK y_37.2 2000).bind fun y_38 =>
   (AS y_38.2 12).bind fun y_39 =>
   if y_39.1 then
    (AP y_39.2 ([(-1), 0, 1, 9999, 10000] : List Int)).bind fun y_41 =>
    (AS y_41.2 12).bind fun y_42 =>
    if y_42.1 then
     (AP y_42.2 ([(-1), 0, (IntKind.i64.wrap (y_41.1 - 1)), y_41.1, 10000] : List Int)).bind fun y_44 =>
     some (y_2.1, y_37.1, y_41.1, y_44.1)
    else
     (AK y_42.2 2000).bind fun y_45 =>
     some (y_2.1, y_37.1, y_41.1, (IntKind.i64.wrap (1000 + y_45.1)))
   else
    (AS y_39.2 12).bind fun y_46 =>
    if y_46.1 then
     (AP y_46.2 ([(-1), 0, (IntKind.i64.wrap ((IntKind.i64.wrap (7000 + y_38.1)) - 1)), (IntKind.i64.wrap (7000 + y_38.1)), 10000] : List Int)).bind fun y_48 =>
     some (y_2.1, y_37.1, (IntKind.i64.wrap (7000 + y_38.1)), y_48.1)
    else
     (AK y_46.2 2000).bind fun y_49 =>
     some (y_2.1, y_37.1, (IntKind.i64.wrap (7000 + y_38.1)), (IntKind.i64.wrap (1000 + y_49.1)))
  else
   (AK y_35.2 2000).bind fun y_50 =>
   (AS y_50.2 12).bind fun y_51 =>
   if y_51.1 then
    (AP y_51.2 ([(-1), 0, 1, 9999, 10000] : List Int)).bind fun y_53 =>
    (AS y_53.2 12).bind fun y_54 =>
    if y_54.1 then
     (AP y_54.2 ([(-1), 0, (IntKind.i64.wrap (y_53.1 - 1)), y_53.1, 10000] : List Int)).bind fun y_56 =>
     some (y_2.1, y_34.1, y_53.1, y_56.1)
    else
     (AK y_54.2 2000).bind fun y_57 =>
     some (y_2.1, y_34.1, y_53.1, (IntKind.i64.wrap (1000 + y_57.1)))
   else
    (AS y_51.2 12).bind fun y_58 =>
    if y_58.1 then
     (AP y_58.2 ([(-1), 0, (IntKind.i64.wrap ((IntKind.i64.wrap (7000 + y_50.1)) - 1)), (IntKind.i64.wrap (7000 + y_50.1)), 10000] : List Int)).bind fun y_60 =>
     some (y_2.1, y_34.1, (IntKind.i64.wrap (7000 + y_50.1)), y_60.1)
    else
     (AK y_58.2 2000).bind fun y_61 =>
     some (y_2.1, y_34.1, (IntKind.i64.wrap (7000 + y_50.1)), (IntKind.i64.wrap (1000 + y_61.1)))
noncomputable def FF (day : Int) (dusk : Int) (dawn : Int) (t34 : Int) : ((List AA) × Int) → Option (((List AA) × Int) ⊕ ((List AA) ⊕ ((List AA) × Int)))
 | (out, t35) =>
  if (decide (t35 < t34)) then
   if (decide (10000000 < (IntKind.i64.wrap ((IntKind.i64.wrap ((IntKind.i64.wrap ((IntKind.i64.wrap (day + t35)) + 1)) * 10000)) + dawn)))) then
    some (.inr (.inr (([] : List AA), 5)))
   else
    ck (Cr (out.length + ([(AA.mk (IntKind.i64.wrap ((IntKind.i64.wrap ((IntKind.i64.wrap (day + t35)) * 10000)) + dusk)) (IntKind.i64.wrap ((IntKind.i64.wrap ((IntKind.i64.wrap ((IntKind.i64.wrap (day + t35)) + 1)) * 10000)) + dawn)))] : List AA).length) 16) <|
    some (.inl ((out ++ ([(AA.mk (IntKind.i64.wrap ((IntKind.i64.wrap ((IntKind.i64.wrap (day + t35)) * 10000)) + dusk)) (IntKind.i64.wrap ((IntKind.i64.wrap ((IntKind.i64.wrap ((IntKind.i64.wrap (day + t35)) + 1)) * 10000)) + dawn)))] : List AA)), (IntKind.i64.wrap (t35 + 1))))
  else
   some (.inr (.inl out))
noncomputable def FM (day : Int) (count : Int) (dusk : Int) (dawn : Int) : Option ((List AA) × Int) :=
 (Ek day 0 999).bind fun y_1 =>
 ck (!(!(!y_1)) || (Ek count 0 30).isSome) <|
 ck (!(!((!y_1) || (!((Ek count 0 30).getD default)))) || (Ek dusk 0 9999).isSome) <|
 ck (!(!(((!y_1) || (!((Ek count 0 30).getD default))) || (!((Ek dusk 0 9999).getD default)))) || (Ek dawn 0 (IntKind.i64.wrap (dusk - 1))).isSome) <|
 if ((((!y_1) || (!((Ek count 0 30).getD default))) || (!((Ek dusk 0 9999).getD default))) || (!((Ek dawn 0 (IntKind.i64.wrap (dusk - 1))).getD default))) then
  some (([] : List AA), 2)
 else
  (AJ (FF day dusk dawn count) (([] : List AA), 0)).bind fun y_9 =>
  match y_9 with
  | .inl y_9a =>
   some (y_9a, 0)
  | .inr y_9b =>
   some (y_9b.1, y_9b.2)
noncomputable def BX (day : Int) (count : Int) (dusk : Int) (dawn : Int) : ((List AA) × Int) → Option (((List AA) × Int) ⊕ ((List AA) ⊕ ((List AA) × Int)))
 | (out, k) =>
  if (decide (k < count)) then
   if (decide (10000000 < (IntKind.i64.wrap ((IntKind.i64.wrap ((IntKind.i64.wrap ((IntKind.i64.wrap (day + k)) + 1)) * 10000)) + dawn)))) then
    some (.inr (.inr (([] : List AA), 5)))
   else
    ck (Cr (out.length + ([(AA.mk (IntKind.i64.wrap ((IntKind.i64.wrap ((IntKind.i64.wrap (day + k)) * 10000)) + dusk)) (IntKind.i64.wrap ((IntKind.i64.wrap ((IntKind.i64.wrap ((IntKind.i64.wrap (day + k)) + 1)) * 10000)) + dawn)))] : List AA).length) 16) <|
    some (.inl ((out ++ ([(AA.mk (IntKind.i64.wrap ((IntKind.i64.wrap ((IntKind.i64.wrap (day + k)) * 10000)) + dusk)) (IntKind.i64.wrap ((IntKind.i64.wrap ((IntKind.i64.wrap ((IntKind.i64.wrap (day + k)) + 1)) * 10000)) + dawn)))] : List AA)), (IntKind.i64.wrap (k + 1))))
  else
   some (.inr (.inl out))
noncomputable def FK (day : Int) (count : Int) (dusk : Int) (dawn : Int) : Option ((List AA) × Int) :=
 (CX day 0 999).bind fun y_1 =>
 ck (!(!(!y_1)) || (CX count 0 30).isSome) <|
 ck (!(!((!y_1) || (!((CX count 0 30).getD default)))) || (CX dusk 0 9999).isSome) <|
 ck (!(!(((!y_1) || (!((CX count 0 30).getD default))) || (!((CX dusk 0 9999).getD default)))) || (CX dawn 0 9999).isSome) <|
 if (((((!y_1) || (!((CX count 0 30).getD default))) || (!((CX dusk 0 9999).getD default))) || (!((CX dawn 0 9999).getD default))) || (decide (dusk ≤ dawn))) then
  some (([] : List AA), 2)
 else
  (AJ (BX day count dusk dawn) (([] : List AA), 0)).bind fun y_9 =>
  match y_9 with
  | .inl y_9a =>
   some (y_9a, 0)
  | .inr y_9b =>
   some (y_9b.1, y_9b.2)
noncomputable def Dg (code : List UInt8) : Option ((List AA) × Int) :=
 (DT code).bind fun y_1 =>
 (DS y_1).bind fun y_2 =>
 (AS y_2.2 10).bind fun y_3 =>
 if y_3.1 then
  (AP y_3.2 ([0, 1, 10000001, 10000002] : List Int)).bind fun y_5 =>
  some (y_2.1, y_5.1)
 else
  (AK y_3.2 30).bind fun y_6 =>
  some (y_2.1, (IntKind.i64.wrap (1 + y_6.1)))
noncomputable def CN (list : List AA) (least : Int) : ((List AA) × Int) → Option (((List AA) × Int) ⊕ (List AA))
 | (out, i) =>
  if (decide (i < (list.length : Int))) then
   ck (BB i list.length) <|
   if (decide (least ≤ (IntKind.i64.wrap ((IntKind.i64.wrap (((list.getD i.toNat default).To) - ((list.getD i.toNat default).From))) + 1)))) then
    ck (Cr (out.length + ([(list.getD i.toNat default)] : List AA).length) 16) <|
    some (.inl ((out ++ ([(list.getD i.toNat default)] : List AA)), (IntKind.i64.wrap (i + 1))))
   else
    some (.inl (out, (IntKind.i64.wrap (i + 1))))
  else
   some (.inr out)
noncomputable def Eo (list : List AA) (least : Int) : Option ((List AA) × Int) :=
 (Ck list).bind fun y_1 =>
 if (!y_1) then
  some (([] : List AA), 1)
 else
  (CX least 1 10000001).bind fun y_3 =>
  if (!y_3) then
   some (([] : List AA), 2)
  else
   (AJ (CN list least) (([] : List AA), 0)).bind fun y_9 =>
   some (y_9, 0)
noncomputable def Cw (code : List UInt8) : Option (List AA) :=
 (DT code).bind fun y_1 =>
 (DS y_1).bind fun y_2 =>
 some y_2.1
noncomputable def ER (list : List AA) (t15 : List AA) (t16 : Int) : (Int × Int) → Option ((Int × Int) ⊕ Int)
 | (best, t17) =>
  if (decide (t17 < t16)) then
   ck (BB t17 t15.length) <|
   ck (BB best list.length) <|
   if (decide ((IntKind.i64.wrap (((list.getD best.toNat default).To) - ((list.getD best.toNat default).From))) < (IntKind.i64.wrap (((t15.getD t17.toNat default).To) - ((t15.getD t17.toNat default).From))))) then
    some (.inl (t17, (IntKind.i64.wrap (t17 + 1))))
   else
    some (.inl (best, (IntKind.i64.wrap (t17 + 1))))
  else
   some (.inr best)
noncomputable def EQ (list : List AA) : Option (Int × Int) :=
 (Ag list).bind fun y_1 =>
 if (!y_1) then
  some (0, 1)
 else
  if ((list.length : Int) == 0) then
   some (0, 3)
  else
   (AJ (ER list list (list.length : Int)) (0, 0)).bind fun y_8 =>
   some (y_8, 0)
noncomputable def BK (list : List AA) : (Int × Int) → Option ((Int × Int) ⊕ Int)
 | (best, i) =>
  if (decide (i < (list.length : Int))) then
   ck (BB i list.length) <|
   ck (BB best list.length) <|
   if (decide ((IntKind.i64.wrap (((list.getD best.toNat default).To) - ((list.getD best.toNat default).From))) < (IntKind.i64.wrap (((list.getD i.toNat default).To) - ((list.getD i.toNat default).From))))) then
    some (.inl (i, (IntKind.i64.wrap (i + 1))))
   else
    some (.inl (best, (IntKind.i64.wrap (i + 1))))
  else
   some (.inr best)
noncomputable def EM (list : List AA) : Option (Int × Int) :=
 (Ck list).bind fun y_1 =>
 if (!y_1) then
  some (0, 1)
 else
  if ((list.length : Int) == 0) then
   some (0, 3)
  else
   (AJ (BK list) (0, 1)).bind fun y_8 =>
   some (y_8, 0)
noncomputable def Dd (code : List UInt8) : Option (List AA) :=
 (DT code).bind fun y_1 =>
 (DS y_1).bind fun y_2 =>
 some y_2.1
noncomputable def FZ (i : Int) (base : Int) : Option (List UInt8) :=
 (nS i base).bind fun y_1 =>
 some y_1
noncomputable def GD (n : Int) : Option (List UInt8) :=
 (FZ n 10).bind fun y_1 =>
 some y_1
noncomputable def Cb (t10 : List AA) (t11 : Int) : ((List (List UInt8)) × Int) → Option (((List (List UInt8)) × Int) ⊕ (List (List UInt8)))
 | (words, t12) =>
  if (decide (t12 < t11)) then
   ck (BB t12 t10.length) <|
   (GD ((t10.getD t12.toNat default).From)).bind fun y_5 =>
   ck (Es y_5.length ([46, 46] : List UInt8).length) <|
   (GD ((t10.getD t12.toNat default).To)).bind fun y_7 =>
   ck (Es (y_5 ++ ([46, 46] : List UInt8)).length y_7.length) <|
   ck (Cr (words.length + ([((y_5 ++ ([46, 46] : List UInt8)) ++ y_7)] : List (List UInt8)).length) 16) <|
   some (.inl ((words ++ ([((y_5 ++ ([46, 46] : List UInt8)) ++ y_7)] : List (List UInt8))), (IntKind.i64.wrap (t12 + 1))))
  else
   some (.inr words)
noncomputable def DP (list : List AA) : Option (List UInt8) :=
 (Ag list).bind fun y_1 =>
 if (!y_1) then
  some ([] : List UInt8)
 else
  (AJ (Cb list (list.length : Int)) (([] : List (List UInt8)), 0)).bind fun y_10 =>
  (ba y_10 ([32] : List UInt8)).bind fun y_11 =>
  some y_11
noncomputable def Ep (s_ : List UInt8) : Option (Int × Int × Bool) :=
 (Yj s_ ([46, 46] : List UInt8)).bind fun y_1 =>
 (Pd y_1.1).bind fun y_2 =>
 (Pd y_1.2.1).bind fun y_3 =>
 some (y_2.1, y_3.1, (y_2.2 && y_3.2))
noncomputable def Bl (s_ : List UInt8) : ((List AA) × (List UInt8)) → Option (((List AA) × (List UInt8)) ⊕ ((List AA) ⊕ ((List AA) × Bool)))
 | (list, rest_) =>
  if (!(rest_ == ([] : List UInt8))) then
   (Yj rest_ ([32] : List UInt8)).bind fun y_2 =>
   (Ep y_2.1).bind fun y_3 =>
   if ((!y_3.2.2) || ((list.length : Int) == 30)) then
    some (.inr (.inr (([] : List AA), false)))
   else
    ck (Cr (list.length + ([(AA.mk y_3.1 y_3.2.1)] : List AA).length) 16) <|
    some (.inl ((list ++ ([(AA.mk y_3.1 y_3.2.1)] : List AA)), y_2.2.1))
  else
   some (.inr (.inl list))
noncomputable def CL (s_ : List UInt8) : Option ((List AA) × Bool) :=
 (AJ (Bl s_) (([] : List AA), s_)).bind fun y_6 =>
 match y_6 with
 | .inl y_6a =>
  (Ag y_6a).bind fun y_7 =>
  ck (!(!(!y_7)) || (DP y_6a).isSome) <|
  if ((!y_7) || (!(((DP y_6a).getD default) == s_))) then
   some (([] : List AA), false)
  else
   some (y_6a, true)
 | .inr y_6b =>
  some (y_6b.1, y_6b.2)
noncomputable def Ch (n : Int) : ((List UInt8) × Int) → Option (((List UInt8) × Int) ⊕ (List UInt8))
 | (out, k) =>
  if (!(k == 0)) then
   ck (nz 10) <|
   if (decide ((k.tmod 10) < 0)) then
    ck (Cr (([(cE (IntKind.u8.wrap (IntKind.i64.wrap (48 + (IntKind.i64.wrap (0 - (k.tmod 10)))))))] : List UInt8).length + out.length) 1) <|
    some (.inl ((([(cE (IntKind.u8.wrap (IntKind.i64.wrap (48 + (IntKind.i64.wrap (0 - (k.tmod 10)))))))] : List UInt8) ++ out), (IntKind.i64.wrap (k.tdiv 10))))
   else
    ck (Cr (([(cE (IntKind.u8.wrap (IntKind.i64.wrap (48 + (k.tmod 10)))))] : List UInt8).length + out.length) 1) <|
    some (.inl ((([(cE (IntKind.u8.wrap (IntKind.i64.wrap (48 + (k.tmod 10)))))] : List UInt8) ++ out), (IntKind.i64.wrap (k.tdiv 10))))
  else
   some (.inr out)
noncomputable def Cl (n : Int) : Option (List UInt8) :=
 (AJ (Ch n) (([] : List UInt8), n)).bind fun y_6 =>
 if ((y_6.length : Int) == 0) then
  some ([48] : List UInt8)
 else
  if (decide (n < 0)) then
   ck (Es ([45] : List UInt8).length y_6.length) <|
   some (([45] : List UInt8) ++ y_6)
  else
   some y_6
noncomputable def DH (list : List AA) : ((List UInt8) × Int) → Option (((List UInt8) × Int) ⊕ (List UInt8))
 | (out, i) =>
  if (decide (i < (list.length : Int))) then
   if (decide (0 < i)) then
    ck (Es out.length ([32] : List UInt8).length) <|
    ck (BB i list.length) <|
    (Cl ((list.getD i.toNat default).From)).bind fun y_5 =>
    ck (Es y_5.length ([46, 46] : List UInt8).length) <|
    (Cl ((list.getD i.toNat default).To)).bind fun y_7 =>
    ck (Es (y_5 ++ ([46, 46] : List UInt8)).length y_7.length) <|
    ck (Es (out ++ ([32] : List UInt8)).length ((y_5 ++ ([46, 46] : List UInt8)) ++ y_7).length) <|
    some (.inl (((out ++ ([32] : List UInt8)) ++ ((y_5 ++ ([46, 46] : List UInt8)) ++ y_7)), (IntKind.i64.wrap (i + 1))))
   else
    ck (BB i list.length) <|
    (Cl ((list.getD i.toNat default).From)).bind fun y_11 =>
    ck (Es y_11.length ([46, 46] : List UInt8).length) <|
    (Cl ((list.getD i.toNat default).To)).bind fun y_13 =>
    ck (Es (y_11 ++ ([46, 46] : List UInt8)).length y_13.length) <|
    ck (Es out.length ((y_11 ++ ([46, 46] : List UInt8)) ++ y_13).length) <|
    some (.inl ((out ++ ((y_11 ++ ([46, 46] : List UInt8)) ++ y_13)), (IntKind.i64.wrap (i + 1))))
  else
   some (.inr out)
noncomputable def Fx (list : List AA) : Option (List UInt8) :=
 (AJ (DH list) (([] : List UInt8), 0)).bind fun y_16 =>
 some y_16
noncomputable def Em (s_ : Aw) (list : List (List UInt8)) : Option ((List UInt8) × Aw) :=
 (AK s_ (list.length : Int)).bind fun y_1 =>
 ck (BB y_1.1 list.length) <|
 some ((list.getD y_1.1.toNat default), y_1.2)
noncomputable def GP (s_ : Aw) (t : List UInt8) : Option ((List UInt8) × Aw) :=
 (AK s_ 5).bind fun y_1 =>
 if (y_1.1 == 0) then
  (AK y_1.2 (IntKind.i64.wrap ((t.length : Int) + 1))).bind fun y_3 =>
  ck (HA 0 y_3.1 t.length) <|
  (Em y_3.2 ([([32] : List UInt8), ([48] : List UInt8), ([45] : List UInt8), ([120] : List UInt8), ([49] : List UInt8), ([57] : List UInt8), ([46] : List UInt8)] : List (List UInt8))).bind fun y_5 =>
  ck (Es (cut t 0 y_3.1).length y_5.1.length) <|
  ck (HA y_3.1 (t.length : Int) t.length) <|
  ck (Es ((cut t 0 y_3.1) ++ y_5.1).length (cut t y_3.1 (t.length : Int)).length) <|
  some ((((cut t 0 y_3.1) ++ y_5.1) ++ (cut t y_3.1 (t.length : Int))), y_5.2)
 else
  if (y_1.1 == 1) then
   if (!(t == ([] : List UInt8))) then
    (AK y_1.2 (t.length : Int)).bind fun y_11 =>
    ck (HA 0 y_11.1 t.length) <|
    ck (HA (IntKind.i64.wrap (y_11.1 + 1)) (t.length : Int) t.length) <|
    ck (Es (cut t 0 y_11.1).length (cut t (IntKind.i64.wrap (y_11.1 + 1)) (t.length : Int)).length) <|
    some (((cut t 0 y_11.1) ++ (cut t (IntKind.i64.wrap (y_11.1 + 1)) (t.length : Int))), y_11.2)
   else
    some (t, y_1.2)
  else
   some (t, y_1.2)
noncomputable def Df (code : List UInt8) : Option (List UInt8) :=
 (DT code).bind fun y_1 =>
 (Ez y_1).bind fun y_2 =>
 (Fx y_2.1).bind fun y_3 =>
 (AS y_2.2 3).bind fun y_4 =>
 if y_4.1 then
  (GP y_4.2 y_3).bind fun y_6 =>
  some y_6.1
 else
  some y_3
noncomputable def DN (s_ : List UInt8) (by_ : UInt8) : ((List (List UInt8)) × Int × Int) → Option (((List (List UInt8)) × Int × Int) ⊕ ((List (List UInt8)) × Int))
 | (out, from_, i) =>
  if (decide (i < (s_.length : Int))) then
   ck (BB i s_.length) <|
   if (((s_.getD i.toNat 0).toNat : Int) == (by_.toNat : Int)) then
    ck (HA from_ i s_.length) <|
    ck (Cr (out.length + ([(cut s_ from_ i)] : List (List UInt8)).length) 16) <|
    some (.inl ((out ++ ([(cut s_ from_ i)] : List (List UInt8))), (IntKind.i64.wrap (i + 1)), (IntKind.i64.wrap (i + 1))))
   else
    some (.inl (out, from_, (IntKind.i64.wrap (i + 1))))
  else
   some (.inr (out, from_))
noncomputable def FP (s_ : List UInt8) (by_ : UInt8) : Option (List (List UInt8)) :=
 (AJ (DN s_ by_) (([] : List (List UInt8)), 0, 0)).bind fun y_6 =>
 ck (HA y_6.2 (s_.length : Int) s_.length) <|
 ck (Cr (y_6.1.length + ([(cut s_ y_6.2 (s_.length : Int))] : List (List UInt8)).length) 16) <|
 some (y_6.1 ++ ([(cut s_ y_6.2 (s_.length : Int))] : List (List UInt8)))
noncomputable def GQ (c : UInt8) : Option Bool :=
 some ((decide (48 ≤ (c.toNat : Int))) && (decide ((c.toNat : Int) ≤ 57)))
noncomputable def Cd (s_ : List UInt8) (t : List UInt8) : (Int × Int) → Option ((Int × Int) ⊕ (Int ⊕ (Int × Bool)))
 | (n, i) =>
  if (decide (i < (t.length : Int))) then
   ck (BB i t.length) <|
   (GQ (t.getD i.toNat 0)).bind fun y_7 =>
   if (!y_7) then
    some (.inr (.inr (0, false)))
   else
    some (.inl ((IntKind.i64.wrap ((IntKind.i64.wrap (10 * n)) + (IntKind.i64.wrap (IntKind.u8.wrap (((t.getD i.toNat 0).toNat : Int) - 48))))), (IntKind.i64.wrap (i + 1))))
  else
   some (.inr (.inl n))
noncomputable def Fa (s_ : List UInt8) (t : List UInt8) : (Int × Int) → Option ((Int × Int) ⊕ (Int ⊕ (Int × Bool)))
 | (n, i) =>
  if (decide (i < (t.length : Int))) then
   ck (BB i t.length) <|
   (GQ (t.getD i.toNat 0)).bind fun y_18 =>
   if (!y_18) then
    some (.inr (.inr (0, false)))
   else
    some (.inl ((IntKind.i64.wrap ((IntKind.i64.wrap (10 * n)) + (IntKind.i64.wrap (IntKind.u8.wrap (((t.getD i.toNat 0).toNat : Int) - 48))))), (IntKind.i64.wrap (i + 1))))
  else
   some (.inr (.inl n))
noncomputable def El (s_ : List UInt8) : Option (Int × Bool) :=
 ck (!(!(s_ == ([] : List UInt8))) || BB 0 s_.length) <|
 if ((!(s_ == ([] : List UInt8))) && (((s_.getD 0 0).toNat : Int) == 45)) then
  ck (HA 1 (s_.length : Int) s_.length) <|
  if ((decide (((cut s_ 1 (s_.length : Int)).length : Int) < 1)) || (decide (18 < ((cut s_ 1 (s_.length : Int)).length : Int)))) then
   some (0, false)
  else
   (AJ (Cd s_ (cut s_ 1 (s_.length : Int))) (0, 0)).bind fun y_9 =>
   match y_9 with
   | .inl y_9a =>
    if (decide (((cut s_ 1 (s_.length : Int)).length : Int) < (s_.length : Int))) then
     (Cl (IntKind.i64.wrap (0 - y_9a))).bind fun y_11 =>
     if (!(y_11 == s_)) then
      some (0, false)
     else
      some ((IntKind.i64.wrap (0 - y_9a)), true)
    else
     (Cl y_9a).bind fun y_13 =>
     if (!(y_13 == s_)) then
      some (0, false)
     else
      some (y_9a, true)
   | .inr y_9b =>
    some (y_9b.1, y_9b.2)
 else
  if ((decide ((s_.length : Int) < 1)) || (decide (18 < (s_.length : Int)))) then
   some (0, false)
  else
   (AJ (Fa s_ s_) (0, 0)).bind fun y_20 =>
   match y_20 with
   | .inl y_20a =>
    if (decide ((s_.length : Int) < (s_.length : Int))) then
     (Cl (IntKind.i64.wrap (0 - y_20a))).bind fun y_22 =>
     if (!(y_22 == s_)) then
      some (0, false)
     else
      some ((IntKind.i64.wrap (0 - y_20a)), true)
    else
     (Cl y_20a).bind fun y_24 =>
     if (!(y_24 == s_)) then
      some (0, false)
     else
      some (y_20a, true)
   | .inr y_20b =>
    some (y_20b.1, y_20b.2)
noncomputable def Bk (w : List (List UInt8)) : ((List AA) × Int) → Option (((List AA) × Int) ⊕ ((List AA) ⊕ ((List AA) × Bool)))
 | (out, i) =>
  if (decide (i < (w.length : Int))) then
   ck (BB i w.length) <|
   (FP (w.getD i.toNat default) (46 : UInt8)).bind fun y_5 =>
   ck (!(!(!((y_5.length : Int) == 3))) || BB 1 y_5.length) <|
   if ((!((y_5.length : Int) == 3)) || (!((y_5.getD 1 default) == ([] : List UInt8)))) then
    some (.inr (.inr (([] : List AA), false)))
   else
    ck (BB 0 y_5.length) <|
    (El (y_5.getD 0 default)).bind fun y_9 =>
    ck (BB 2 y_5.length) <|
    (El (y_5.getD 2 default)).bind fun y_11 =>
    if ((!y_9.2) || (!y_11.2)) then
     some (.inr (.inr (([] : List AA), false)))
    else
     ck (Cr (out.length + ([(AA.mk y_9.1 y_11.1)] : List AA).length) 16) <|
     some (.inl ((out ++ ([(AA.mk y_9.1 y_11.1)] : List AA)), (IntKind.i64.wrap (i + 1))))
  else
   some (.inr (.inl out))
noncomputable def EK (s_ : List UInt8) : Option ((List AA) × Bool) :=
 if (s_ == ([] : List UInt8)) then
  some (([] : List AA), true)
 else
  (FP s_ (32 : UInt8)).bind fun y_2 =>
  (AJ (Bk y_2) (([] : List AA), 0)).bind fun y_14 =>
  match y_14 with
  | .inl y_14a =>
   (Ck y_14a).bind fun y_15 =>
   if (!y_15) then
    some (([] : List AA), false)
   else
    some (y_14a, true)
  | .inr y_14b =>
   some (y_14b.1, y_14b.2)
noncomputable def De (code : List UInt8) : Option ((List AA) × (List AA)) :=
 (DT code).bind fun y_1 =>
 (Ez y_1).bind fun y_2 =>
 ck (Cr (([] : List AA).length + y_2.1.length) 16) <|
 if (decide (0 < ((([] : List AA) ++ y_2.1).length : Int))) then
  (AS y_2.2 2).bind fun y_5 =>
  if ((decide (0 < ((([] : List AA) ++ y_2.1).length : Int))) && y_5.1) then
   ck (BB 0 ((([] : List AA) ++ y_2.1).length)) <|
   (AK y_5.2 2).bind fun y_8 =>
   (AS y_8.2 5).bind fun y_9 =>
   if y_9.1 then
    ck (Cr (((([] : List AA) ++ y_2.1).set 0 (AA.mk (((([] : List AA) ++ y_2.1).getD 0 default).From) (IntKind.i64.wrap ((((([] : List AA) ++ y_2.1).getD 0 default).To) + y_8.1)))).length + ([(AA.mk 0 0)] : List AA).length) 16) <|
    some (y_2.1, (((([] : List AA) ++ y_2.1).set 0 (AA.mk (((([] : List AA) ++ y_2.1).getD 0 default).From) (IntKind.i64.wrap ((((([] : List AA) ++ y_2.1).getD 0 default).To) + y_8.1)))) ++ ([(AA.mk 0 0)] : List AA)))
   else
    some (y_2.1, ((([] : List AA) ++ y_2.1).set 0 (AA.mk (((([] : List AA) ++ y_2.1).getD 0 default).From) (IntKind.i64.wrap ((((([] : List AA) ++ y_2.1).getD 0 default).To) + y_8.1)))))
  else
   (AS y_5.2 5).bind fun y_12 =>
   if y_12.1 then
    ck (Cr ((([] : List AA) ++ y_2.1).length + ([(AA.mk 0 0)] : List AA).length) 16) <|
    some (y_2.1, ((([] : List AA) ++ y_2.1) ++ ([(AA.mk 0 0)] : List AA)))
   else
    some (y_2.1, (([] : List AA) ++ y_2.1))
 else
  (AS y_2.2 5).bind fun y_15 =>
  if y_15.1 then
   ck (Cr ((([] : List AA) ++ y_2.1).length + ([(AA.mk 0 0)] : List AA).length) 16) <|
   some (y_2.1, ((([] : List AA) ++ y_2.1) ++ ([(AA.mk 0 0)] : List AA)))
  else
   some (y_2.1, (([] : List AA) ++ y_2.1))
noncomputable def EV (a : List AA) (b : List AA) : Int → Option (Int ⊕ (Unit ⊕ Bool))
 | i =>
  if (decide (i < (a.length : Int))) then
   ck (BB i a.length) <|
   ck (BB i b.length) <|
   if (!((((a.getD i.toNat default).From) == ((b.getD i.toNat default).From)) && (((a.getD i.toNat default).To) == ((b.getD i.toNat default).To)))) then
    some (.inr (.inr false))
   else
    some (.inl (IntKind.i64.wrap (i + 1)))
  else
   some (.inr (.inl ()))
noncomputable def Hs (a : List AA) (b : List AA) : Option Bool :=
 if (!((a.length : Int) == (b.length : Int))) then
  some false
 else
  (AJ (EV a b) 0).bind fun y_6 =>
  match y_6 with
  | .inl y_6a =>
   some true
  | .inr y_6b =>
   some y_6b
noncomputable def AH (a : List AA) (b : List AA) : Option Bool :=
 (Hs a b).bind fun y_1 =>
 some y_1
noncomputable def Bn (list : List AA) : Option (List UInt8) :=
 (Ck list).bind fun y_1 =>
 if (!y_1) then
  some ([] : List UInt8)
 else
  (Fx list).bind fun y_3 =>
  some y_3
noncomputable def CS (s1 : List AA) (s2 : List AA) (t12 : Int) : Int → Option (Int ⊕ (Unit ⊕ Bool))
 | t13 =>
  if (decide (t13 < t12)) then
   ck (BB t13 s1.length) <|
   ck (BB t13 s2.length) <|
   if (!((((s1.getD t13.toNat default).From) == ((s2.getD t13.toNat default).From)) && (((s1.getD t13.toNat default).To) == ((s2.getD t13.toNat default).To)))) then
    some (.inr (.inr false))
   else
    some (.inl (IntKind.i64.wrap (t13 + 1)))
  else
   some (.inr (.inl ()))
noncomputable def CY (s1 : List AA) (s2 : List AA) : Option Bool :=
 if (!((s1.length : Int) == (s2.length : Int))) then
  some false
 else
  (AJ (CS s1 s2 (s1.length : Int)) 0).bind fun y_6 =>
  match y_6 with
  | .inl y_6a =>
   some true
  | .inr y_6b =>
   some y_6b
noncomputable def Cp (a : List AA) (b : List AA) : Option Bool :=
 (CY a b).bind fun y_1 =>
 some y_1
noncomputable def Dp (list : List AA) : Option Bool :=
 (Ck list).bind fun y_1 =>
 some y_1
noncomputable def HV (w : AA) (t1 : Int) : Option Bool :=
 (Ek t1 w.From w.To).bind fun y_1 =>
 some y_1
noncomputable def AZ (s_ : List AA) (c : Int) (t7 : Int) : Int → Option (Int ⊕ (Unit ⊕ Int))
 | t8 =>
  if (decide (t8 < t7)) then
   ck (BB t8 s_.length) <|
   (HV (s_.getD t8.toNat default) c).bind fun y_3 =>
   if y_3 then
    some (.inr (.inr t8))
   else
    some (.inl (IntKind.i64.wrap (t8 + 1)))
  else
   some (.inr (.inl ()))
noncomputable def BC (s_ : List AA) (f_c0 : Int) : Option Int :=
 (AJ (AZ s_ f_c0 (s_.length : Int)) 0).bind fun y_5 =>
 match y_5 with
 | .inl y_5a =>
  some (-1)
 | .inr y_5b =>
  some y_5b
noncomputable def Av (s_ : List AA) (f_c0 : Int) : Option Bool :=
 (BC s_ f_c0).bind fun y_1 =>
 some (decide (0 ≤ y_1))
noncomputable def Ia (list : List AA) (t : Int) : Option Bool :=
 (Av list t).bind fun y_1 =>
 some y_1
noncomputable def Ci (list : List AA) (t : Int) : Option (Bool × Int) :=
 (Ag list).bind fun y_1 =>
 if (!y_1) then
  some (false, 1)
 else
  (Di t).bind fun y_3 =>
  if (!y_3) then
   some (false, 2)
  else
   (Ia list t).bind fun y_5 =>
   some (y_5, 0)
noncomputable def DA (nights : List AA) (moon : List AA) (clouds : List AA) (model : List AA) : Int → Option (Int ⊕ (Unit ⊕ Bool))
 | i =>
  if (decide (i < (model.length : Int))) then
   ck (BB i model.length) <|
   (Ci nights ((model.getD i.toNat default).From)).bind fun y_43 =>
   (Ci moon ((model.getD i.toNat default).From)).bind fun y_44 =>
   (Ci clouds ((model.getD i.toNat default).To)).bind fun y_45 =>
   if ((((((!(y_43.2 == 0)) || (!y_43.1)) || (!(y_44.2 == 0))) || y_44.1) || (!(y_45.2 == 0))) || y_45.1) then
    some (.inr (.inr false))
   else
    some (.inl (IntKind.i64.wrap (i + 1)))
  else
   some (.inr (.inl ()))
noncomputable def Gs (nights : List AA) (moon : List AA) (clouds : List AA) (model : List AA) : Int → Option (Int ⊕ (Unit ⊕ Bool))
 | i =>
  if (decide (i < (model.length : Int))) then
   ck (BB i model.length) <|
   (Ci nights ((model.getD i.toNat default).From)).bind fun y_53 =>
   (Ci moon ((model.getD i.toNat default).From)).bind fun y_54 =>
   (Ci clouds ((model.getD i.toNat default).To)).bind fun y_55 =>
   if ((((((!(y_53.2 == 0)) || (!y_53.1)) || (!(y_54.2 == 0))) || y_54.1) || (!(y_55.2 == 0))) || y_55.1) then
    some (.inr (.inr false))
   else
    some (.inl (IntKind.i64.wrap (i + 1)))
  else
   some (.inr (.inl ()))
noncomputable def Im (code : List UInt8) : Option Bool :=
 (KA code).bind fun y_1 =>
 if y_1 then
  some true
 else
  (EN code).bind fun y_3 =>
  (Fo y_3.1 y_3.2.1 y_3.2.2).bind fun y_4 =>
  (Fi y_3.1 y_3.2.1 y_3.2.2).bind fun y_5 =>
  (Dz code).bind fun y_6 =>
  (FM y_6.1 y_6.2.1 y_6.2.2.1 y_6.2.2.2).bind fun y_7 =>
  (FK y_6.1 y_6.2.1 y_6.2.2.1 y_6.2.2.2).bind fun y_8 =>
  (Dg code).bind fun y_9 =>
  (DQ y_9.1 y_9.2).bind fun y_10 =>
  (Eo y_9.1 y_9.2).bind fun y_11 =>
  (Cw code).bind fun y_12 =>
  (EQ y_12).bind fun y_13 =>
  (EM y_12).bind fun y_14 =>
  (Dd code).bind fun y_15 =>
  (DP y_15).bind fun y_16 =>
  (CL y_16).bind fun y_17 =>
  (Df code).bind fun y_18 =>
  (CL y_18).bind fun y_19 =>
  (EK y_18).bind fun y_20 =>
  (De code).bind fun y_21 =>
  ck (!(!(!(y_4.2 == y_5.2))) || (AH y_4.1 y_5.1).isSome) <|
  ck (!(!(((!(y_4.2 == y_5.2)) || (!((AH y_4.1 y_5.1).getD default))) || (!(y_7.2 == y_8.2)))) || (AH y_7.1 y_8.1).isSome) <|
  ck (!(!(((((!(y_4.2 == y_5.2)) || (!((AH y_4.1 y_5.1).getD default))) || (!(y_7.2 == y_8.2))) || (!((AH y_7.1 y_8.1).getD default))) || (!(y_10.2 == y_11.2)))) || (AH y_10.1 y_11.1).isSome) <|
  ck (!(!((((((((!(y_4.2 == y_5.2)) || (!((AH y_4.1 y_5.1).getD default))) || (!(y_7.2 == y_8.2))) || (!((AH y_7.1 y_8.1).getD default))) || (!(y_10.2 == y_11.2))) || (!((AH y_10.1 y_11.1).getD default))) || (!(y_13.2 == y_14.2))) || (!(y_13.1 == y_14.1)))) || (Bn y_15).isSome) <|
  ck (!((!((((((((((!(y_4.2 == y_5.2)) || (!((AH y_4.1 y_5.1).getD default))) || (!(y_7.2 == y_8.2))) || (!((AH y_7.1 y_8.1).getD default))) || (!(y_10.2 == y_11.2))) || (!((AH y_10.1 y_11.1).getD default))) || (!(y_13.2 == y_14.2))) || (!(y_13.1 == y_14.1))) || (!(y_16 == ((Bn y_15).getD default)))) || (!y_17.2))) && (!(y_16 == ([] : List UInt8)))) || (AH y_17.1 y_15).isSome) <|
  ck (!(!((((((((((((!(y_4.2 == y_5.2)) || (!((AH y_4.1 y_5.1).getD default))) || (!(y_7.2 == y_8.2))) || (!((AH y_7.1 y_8.1).getD default))) || (!(y_10.2 == y_11.2))) || (!((AH y_10.1 y_11.1).getD default))) || (!(y_13.2 == y_14.2))) || (!(y_13.1 == y_14.1))) || (!(y_16 == ((Bn y_15).getD default)))) || (!y_17.2)) || ((!(y_16 == ([] : List UInt8))) && (!((AH y_17.1 y_15).getD default)))) || (!(y_19.2 == y_20.2)))) || (AH y_19.1 y_20.1).isSome) <|
  ck (!(!(((((((((((((!(y_4.2 == y_5.2)) || (!((AH y_4.1 y_5.1).getD default))) || (!(y_7.2 == y_8.2))) || (!((AH y_7.1 y_8.1).getD default))) || (!(y_10.2 == y_11.2))) || (!((AH y_10.1 y_11.1).getD default))) || (!(y_13.2 == y_14.2))) || (!(y_13.1 == y_14.1))) || (!(y_16 == ((Bn y_15).getD default)))) || (!y_17.2)) || ((!(y_16 == ([] : List UInt8))) && (!((AH y_17.1 y_15).getD default)))) || (!(y_19.2 == y_20.2))) || (!((AH y_19.1 y_20.1).getD default)))) || (Cp y_21.1 y_21.2).isSome) <|
  ck (!(!(((((((((((((!(y_4.2 == y_5.2)) || (!((AH y_4.1 y_5.1).getD default))) || (!(y_7.2 == y_8.2))) || (!((AH y_7.1 y_8.1).getD default))) || (!(y_10.2 == y_11.2))) || (!((AH y_10.1 y_11.1).getD default))) || (!(y_13.2 == y_14.2))) || (!(y_13.1 == y_14.1))) || (!(y_16 == ((Bn y_15).getD default)))) || (!y_17.2)) || ((!(y_16 == ([] : List UInt8))) && (!((AH y_17.1 y_15).getD default)))) || (!(y_19.2 == y_20.2))) || (!((AH y_19.1 y_20.1).getD default)))) || (AH y_21.1 y_21.2).isSome) <|
  ck (!(!((((((((((((((!(y_4.2 == y_5.2)) || (!((AH y_4.1 y_5.1).getD default))) || (!(y_7.2 == y_8.2))) || (!((AH y_7.1 y_8.1).getD default))) || (!(y_10.2 == y_11.2))) || (!((AH y_10.1 y_11.1).getD default))) || (!(y_13.2 == y_14.2))) || (!(y_13.1 == y_14.1))) || (!(y_16 == ((Bn y_15).getD default)))) || (!y_17.2)) || ((!(y_16 == ([] : List UInt8))) && (!((AH y_17.1 y_15).getD default)))) || (!(y_19.2 == y_20.2))) || (!((AH y_19.1 y_20.1).getD default))) || (!(((Cp y_21.1 y_21.2).getD default) == ((AH y_21.1 y_21.2).getD default))))) || (Ag y_15).isSome) <|
  ck (!(!((((((((((((((!(y_4.2 == y_5.2)) || (!((AH y_4.1 y_5.1).getD default))) || (!(y_7.2 == y_8.2))) || (!((AH y_7.1 y_8.1).getD default))) || (!(y_10.2 == y_11.2))) || (!((AH y_10.1 y_11.1).getD default))) || (!(y_13.2 == y_14.2))) || (!(y_13.1 == y_14.1))) || (!(y_16 == ((Bn y_15).getD default)))) || (!y_17.2)) || ((!(y_16 == ([] : List UInt8))) && (!((AH y_17.1 y_15).getD default)))) || (!(y_19.2 == y_20.2))) || (!((AH y_19.1 y_20.1).getD default))) || (!(((Cp y_21.1 y_21.2).getD default) == ((AH y_21.1 y_21.2).getD default))))) || (Dp y_15).isSome) <|
  if (((((((((((((((!(y_4.2 == y_5.2)) || (!((AH y_4.1 y_5.1).getD default))) || (!(y_7.2 == y_8.2))) || (!((AH y_7.1 y_8.1).getD default))) || (!(y_10.2 == y_11.2))) || (!((AH y_10.1 y_11.1).getD default))) || (!(y_13.2 == y_14.2))) || (!(y_13.1 == y_14.1))) || (!(y_16 == ((Bn y_15).getD default)))) || (!y_17.2)) || ((!(y_16 == ([] : List UInt8))) && (!((AH y_17.1 y_15).getD default)))) || (!(y_19.2 == y_20.2))) || (!((AH y_19.1 y_20.1).getD default))) || (!(((Cp y_21.1 y_21.2).getD default) == ((AH y_21.1 y_21.2).getD default)))) || (!(((Ag y_15).getD default) == ((Dp y_15).getD default)))) then
   some false
  else
   if (y_13.2 == 0) then
    ck (BB y_14.1 y_12.length) <|
    (DQ y_12 (IntKind.i64.wrap ((IntKind.i64.wrap (((y_12.getD y_14.1.toNat default).To) - ((y_12.getD y_14.1.toNat default).From))) + 1))).bind fun y_35 =>
    ck (!(!((!(y_35.2 == 0)) || (decide ((y_35.1.length : Int) < 1)))) || BB 0 y_35.1.length) <|
    if (((!(y_35.2 == 0)) || (decide ((y_35.1.length : Int) < 1))) || (!((((y_35.1.getD 0 default).From) == ((y_12.getD y_14.1.toNat default).From)) && (((y_35.1.getD 0 default).To) == ((y_12.getD y_14.1.toNat default).To))))) then
     some false
    else
     ck (!((y_7.2 == 0) && !(!((y_7.1.length : Int) == y_6.2.1))) || (Ag y_7.1).isSome) <|
     if ((y_7.2 == 0) && ((!((y_7.1.length : Int) == y_6.2.1)) || (!((Ag y_7.1).getD default)))) then
      some false
     else
      if (!(y_4.2 == 0)) then
       some true
      else
       (AJ (DA y_3.1 y_3.2.1 y_3.2.2 y_5.1) 0).bind fun y_47 =>
       match y_47 with
       | .inl y_47a =>
        some true
       | .inr y_47b =>
        some y_47b
   else
    ck (!((y_7.2 == 0) && !(!((y_7.1.length : Int) == y_6.2.1))) || (Ag y_7.1).isSome) <|
    if ((y_7.2 == 0) && ((!((y_7.1.length : Int) == y_6.2.1)) || (!((Ag y_7.1).getD default)))) then
     some false
    else
     if (!(y_4.2 == 0)) then
      some true
     else
      (AJ (Gs y_3.1 y_3.2.1 y_3.2.2 y_5.1) 0).bind fun y_57 =>
      match y_57 with
      | .inl y_57a =>
       some true
      | .inr y_57b =>
       some y_57b
end Go.Proofs.YthdmeanbdohehaaGreatDoor
