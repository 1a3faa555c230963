/- Typed forms of the functions that FA reaches. No condition. -/
import Derived.Test.YtfaenphcgfocnaaGreatDoorEngSI
namespace Go.Proofs.YtfaenphcgfocnaaGreatDoor
open Go Go.RowKit
set_option linter.unusedVariables false
structure AA where
 Time:Int
 Star:List UInt8
 Observer:List UInt8
 Mag:Int
 Fainter:Bool
 deriving Inhabited,DecidableEq
def AE (x:AA):AV:=.agg ([.int .i64 x.Time,.str x.Star,.str x.Observer,.int .i64 x.Mag,.bool x.Fainter])
structure Star where
 Name:List UInt8
 Ascend:Int
 Decl:Int
 Bright:Int
 Faint:Int
 deriving Inhabited,DecidableEq
def Al (x:Star):AV:=.agg ([.str x.Name,.int .i64 x.Ascend,.int .i64 x.Decl,.int .i64 x.Bright,.int .i64 x.Faint])
structure Observer where
 Name:List UInt8
 Shift:Int
 deriving Inhabited,DecidableEq
def AX (x:Observer):AV:=.agg ([.str x.Name,.int .i64 x.Shift])
structure AQ where
 code_:List UInt8
 at_:Int
 seed_:Int
 deriving Inhabited,DecidableEq
def Ah (x:AQ):AV:=.agg ([.sl 1 (List.map Co x.code_),.int .i64 x.at_,.int .u64 x.seed_])
structure AJ where
 Index:Int
 Kind:Int
 deriving Inhabited,DecidableEq
def Ae (x:AJ):AV:=.agg ([.int .i64 x.Index,.int .i64 x.Kind])
structure Ac where
 Num:Int
 Den:Int
 deriving Inhabited,DecidableEq
def BQ (x:Ac):AV:=.agg ([.int .i64 x.Num,.int .i64 x.Den])
attribute [go_sem] AE Al AX Ah Ae BQ
noncomputable def Lx (code:List UInt8):Option Bool :=
 some (decide (4096 < (code.length:Int)))
noncomputable def Ey (code:List UInt8):Option AQ :=
 some (AQ.mk code 0 0)
noncomputable def EP (s_:AQ):Option (Int × AQ) :=
 if (decide (s_.at_ < (s_.code_.length:Int))) then
  ck (BA s_.at_ s_.code_.length) <|
  if (decide ((IntKind.i64.wrap (s_.at_ + 1)) ≤ (s_.code_.length:Int))) then
   some (((s_.code_.getD s_.at_.toNat default).toNat:Int),(AQ.mk s_.code_ (IntKind.i64.wrap (s_.at_ + 1)) (IntKind.u64.wrap ((IntKind.u64.wrap ((IntKind.u64.wrap (s_.seed_ * 6364136223846793005)) + (IntKind.u64.wrap ((s_.code_.getD s_.at_.toNat default).toNat:Int)))) + 1442695040888963407))))
  else
   ck (gH 40) <|
   some ((IntKind.i64.wrap (IntKind.u64.wrap (BitVec.ofInt (IntKind.bits .u64) ((IntKind.u64.wrap ((IntKind.u64.wrap ((IntKind.u64.wrap (s_.seed_ * 6364136223846793005)) + (IntKind.u64.wrap ((s_.code_.getD s_.at_.toNat default).toNat:Int)))) + 1442695040888963407)).fdiv (2 ^ (min 40 64))) &&& BitVec.ofInt (IntKind.bits .u64) 255).toNat)),(AQ.mk s_.code_ (IntKind.i64.wrap (s_.at_ + 1)) (IntKind.u64.wrap ((IntKind.u64.wrap ((IntKind.u64.wrap (s_.seed_ * 6364136223846793005)) + (IntKind.u64.wrap ((s_.code_.getD s_.at_.toNat default).toNat:Int)))) + 1442695040888963407))))
 else
  if (decide ((IntKind.i64.wrap (s_.at_ + 1)) ≤ (s_.code_.length:Int))) then
   some (0,(AQ.mk s_.code_ (IntKind.i64.wrap (s_.at_ + 1)) (IntKind.u64.wrap ((IntKind.u64.wrap ((IntKind.u64.wrap (s_.seed_ * 6364136223846793005)) + (IntKind.u64.wrap 0))) + 1442695040888963407))))
  else
   ck (gH 40) <|
   some ((IntKind.i64.wrap (IntKind.u64.wrap (BitVec.ofInt (IntKind.bits .u64) ((IntKind.u64.wrap ((IntKind.u64.wrap ((IntKind.u64.wrap (s_.seed_ * 6364136223846793005)) + (IntKind.u64.wrap 0))) + 1442695040888963407)).fdiv (2 ^ (min 40 64))) &&& BitVec.ofInt (IntKind.bits .u64) 255).toNat)),(AQ.mk s_.code_ (IntKind.i64.wrap (s_.at_ + 1)) (IntKind.u64.wrap ((IntKind.u64.wrap ((IntKind.u64.wrap (s_.seed_ * 6364136223846793005)) + (IntKind.u64.wrap 0))) + 1442695040888963407))))
noncomputable def AI (s_:AQ) (n:Int):Option (Int × AQ) :=
 if (decide (n ≤ 1)) then
  some (0,s_)
 else
  (EP s_).bind fun y_2 =>
  if (decide (200 < n)) then
   (EP y_2.2).bind fun y_4 =>
   ck (nz n) <|
   some (((IntKind.i64.wrap ((IntKind.i64.wrap (y_2.1 * 256)) + y_4.1)).tmod n),y_4.2)
  else
   ck (nz n) <|
   some ((y_2.1.tmod n),y_2.2)
noncomputable def Ag (s_:AQ) (n:Int):Option (Bool × AQ) :=
 (AI s_ n).bind fun y_1 =>
 some ((y_1.1 == 0),y_1.2)
noncomputable def BO (s_:AQ) (list:List (List UInt8)):Option ((List UInt8) × AQ) :=
 (AI s_ (list.length:Int)).bind fun y_1 =>
 ck (BA y_1.1 list.length) <|
 some ((list.getD y_1.1.toNat default),y_1.2)
noncomputable def ID (s_:AQ):Option (AA × AQ) :=
 (AI s_ 30).bind fun y_1 =>
 (Ag y_1.2 2).bind fun y_2 =>
 if y_2.1 then
  (AI y_2.2 3000).bind fun y_4 =>
  (BO y_4.2 ([([109,105,114,97]:List UInt8),([114,114,45,108,121,114]:List UInt8),([115,115,45,99,121,103]:List UInt8)]:List (List UInt8))).bind fun y_5 =>
  (BO y_5.2 ([([97,98]:List UInt8),([99,100]:List UInt8),([101]:List UInt8)]:List (List UInt8))).bind fun y_6 =>
  (AI y_6.2 60).bind fun y_7 =>
  (Ag y_7.2 5).bind fun y_8 =>
  some ((AA.mk (IntKind.i64.wrap ((IntKind.i64.wrap (1000 * y_1.1)) + y_4.1)) y_5.1 y_6.1 (IntKind.i64.wrap (8000 + (IntKind.i64.wrap (50 * y_7.1)))) y_8.1),y_8.2)
 else
  (BO y_2.2 ([([109,105,114,97]:List UInt8),([114,114,45,108,121,114]:List UInt8),([115,115,45,99,121,103]:List UInt8)]:List (List UInt8))).bind fun y_9 =>
  (BO y_9.2 ([([97,98]:List UInt8),([99,100]:List UInt8),([101]:List UInt8)]:List (List UInt8))).bind fun y_10 =>
  (AI y_10.2 60).bind fun y_11 =>
  (Ag y_11.2 5).bind fun y_12 =>
  some ((AA.mk (IntKind.i64.wrap (1000 * y_1.1)) y_9.1 y_10.1 (IntKind.i64.wrap (8000 + (IntKind.i64.wrap (50 * y_11.1)))) y_12.1),y_12.2)
noncomputable def CP (a:AA) (b:AA):Option Bool :=
 if (!(a.Time == b.Time)) then
  some (decide (a.Time < b.Time))
 else
  if (!(a.Star == b.Star)) then
   some (Op.bytesLess a.Star b.Star)
  else
   some (Op.bytesLess a.Observer b.Observer)
noncomputable def En (list:List AA) (e_:AA):Int → Option (Int ⊕ (Unit ⊕ Int))
 | i =>
  if (decide (i < (list.length:Int))) then
   ck (BA i list.length) <|
   (CP (list.getD i.toNat default) e_).bind fun y_3 =>
   ck (!(!y_3) || (CP e_ (list.getD i.toNat default)).isSome) <|
   if ((!y_3) && (!((CP e_ (list.getD i.toNat default)).getD default))) then
    some (.inr (.inr i))
   else
    some (.inl (IntKind.i64.wrap (i + 1)))
  else
   some (.inr (.inl ()))
noncomputable def EC (list:List AA) (e_:AA):Option Int :=
 (AL (En list e_) 0).bind fun y_6 =>
 match y_6 with
 | .inl y_6a =>
  some (-1)
 | .inr y_6b =>
  some y_6b
noncomputable def ET (list:List AA) (e_:AA):Int → Option (Int ⊕ Int)
 | k =>
  ck (!(decide (0 < k)) || BA (IntKind.i64.wrap (k - 1)) list.length) <|
  ck (!(decide (0 < k)) || (CP e_ (list.getD (IntKind.i64.wrap (k - 1)).toNat default)).isSome) <|
  if ((decide (0 < k)) && ((CP e_ (list.getD (IntKind.i64.wrap (k - 1)).toNat default)).getD default)) then
   some (.inl (IntKind.i64.wrap (k - 1)))
  else
   some (.inr k)
noncomputable def IB (list:List AA) (e_:AA):Option (List AA) :=
 (AL (ET list e_) (list.length:Int)).bind fun y_4 =>
 ck (FI 0 y_4 list.length) <|
 ck (BW (([]:List AA).length + (cut list 0 y_4).length) 56) <|
 ck (BW ((([]:List AA) ++ (cut list 0 y_4)).length + ([e_]:List AA).length) 56) <|
 ck (FI y_4 (list.length:Int) list.length) <|
 ck (BW (((([]:List AA) ++ (cut list 0 y_4)) ++ ([e_]:List AA)).length + (cut list y_4 (list.length:Int)).length) 56) <|
 some (((([]:List AA) ++ (cut list 0 y_4)) ++ ([e_]:List AA)) ++ (cut list y_4 (list.length:Int)))
noncomputable def Eo :(AQ × (List AA) × Int) → Option ((AQ × (List AA) × Int) ⊕ (AQ × (List AA)))
 | (s_,out,k) =>
  if (decide (0 < k)) then
   (ID s_).bind fun y_3 =>
   (EC out y_3.1).bind fun y_4 =>
   if (decide (y_4 < 0)) then
    (IB out y_3.1).bind fun y_6 =>
    some (.inl (y_3.2,y_6,(IntKind.i64.wrap (k - 1))))
   else
    some (.inl (y_3.2,out,(IntKind.i64.wrap (k - 1))))
  else
   some (.inr (s_,out))
noncomputable def Gz (s_:AQ) (most:Int):Option ((List AA) × AQ) :=
 (AI s_ (IntKind.i64.wrap (most + 1))).bind fun y_1 =>
 (AL (Eo) (y_1.2,([]:List AA),y_1.1)).bind fun y_7 =>
 some (y_7.2,y_7.1)
noncomputable def BH (s_:AQ) (list:List Int):Option (Int × AQ) :=
 (AI s_ (list.length:Int)).bind fun y_1 =>
 ck (BA y_1.1 list.length) <|
 some ((list.getD y_1.1.toNat default),y_1.2)
noncomputable def CU (s_:AQ):Option (Int × AQ) :=
 (Ag s_ 8).bind fun y_1 =>
 if y_1.1 then
  (AI y_1.2 22001).bind fun y_3 =>
  some ((IntKind.i64.wrap (y_3.1 + (-2000))),y_3.2)
 else
  (AI y_1.2 60).bind fun y_4 =>
  some ((IntKind.i64.wrap (8000 + (IntKind.i64.wrap (50 * y_4.1)))),y_4.2)
noncomputable def Fy (s_:AQ):Option (Int × AQ) :=
 (Ag s_ 14).bind fun y_1 =>
 if y_1.1 then
  (BH y_1.2 ([(-2001),(-2000),20000,20001,(-9223372036854775808),9223372036854775807]:List Int)).bind fun y_3 =>
  some (y_3.1,y_3.2)
 else
  (CU y_1.2).bind fun y_4 =>
  some (y_4.1,y_4.2)
noncomputable def Ep (s_:AQ):Option (AA × AQ) :=
 (ID s_).bind fun y_1 =>
 (AI y_1.2 24).bind fun y_2 =>
 if (y_2.1 == 0) then
  (BH y_2.2 ([(-1),0,10000000,10000001]:List Int)).bind fun y_4 =>
  some ((AA.mk y_4.1 y_1.1.Star y_1.1.Observer y_1.1.Mag y_1.1.Fainter),y_4.2)
 else
  if (y_2.1 == 1) then
   (BO y_2.2 ([([]:List UInt8),([77,105,114,97]:List UInt8),([97,32,98]:List UInt8)]:List (List UInt8))).bind fun y_6 =>
   some ((AA.mk y_1.1.Time y_6.1 y_1.1.Observer y_1.1.Mag y_1.1.Fainter),y_6.2)
  else
   if (y_2.1 == 2) then
    (BO y_2.2 ([([]:List UInt8),([65,66]:List UInt8)]:List (List UInt8))).bind fun y_8 =>
    some ((AA.mk y_1.1.Time y_1.1.Star y_8.1 y_1.1.Mag y_1.1.Fainter),y_8.2)
   else
    if (y_2.1 == 3) then
     (Fy y_2.2).bind fun y_10 =>
     some ((AA.mk y_1.1.Time y_1.1.Star y_1.1.Observer y_10.1 y_1.1.Fainter),y_10.2)
    else
     some (y_1.1,y_2.2)
noncomputable def Dr (s_:AQ):((List AA) × Int) → Option (((List AA) × Int) ⊕ (List AA))
 | (list,k) =>
  if (decide (0 < k)) then
   ck (BW (list.length + ([(AA.mk (list.length:Int) ([109,105,114,97]:List UInt8) ([97,98]:List UInt8) 9000 false)]:List AA).length) 56) <|
   some (.inl ((list ++ ([(AA.mk (list.length:Int) ([109,105,114,97]:List UInt8) ([97,98]:List UInt8) 9000 false)]:List AA)),(IntKind.i64.wrap (k - 1))))
  else
   some (.inr list)
noncomputable def Ia (s_:AQ):Option ((List AA) × AQ) :=
 (Gz s_ 10).bind fun y_1 =>
 (AI y_1.2 20).bind fun y_2 =>
 if (y_2.1 == 0) then
  (Ep y_2.2).bind fun y_4 =>
  ck (BW (y_1.1.length + ([y_4.1]:List AA).length) 56) <|
  some ((y_1.1 ++ ([y_4.1]:List AA)),y_4.2)
 else
  if (y_2.1 == 1) then
   (AI y_2.2 2).bind fun y_7 =>
   (AL (Dr y_7.2) (([]:List AA),(IntKind.i64.wrap (100 + y_7.1)))).bind fun y_10 =>
   some (y_10,y_7.2)
  else
   if (y_2.1 == 2) then
    if (decide (0 < (y_1.1.length:Int))) then
     (AI y_2.2 (y_1.1.length:Int)).bind fun y_13 =>
     (Ep y_13.2).bind fun y_14 =>
     ck (BA y_13.1 y_1.1.length) <|
     some ((y_1.1.set y_13.1.toNat y_14.1),y_14.2)
    else
     some (y_1.1,y_2.2)
   else
    some (y_1.1,y_2.2)
noncomputable def Dv (n:Int) (low:Int) (high:Int):Option Bool :=
 some ((decide (low ≤ n)) && (decide (n ≤ high)))
noncomputable def Jt (n:Int):Option Bool :=
 (Dv n 0 10000000).bind fun y_1 =>
 some y_1
noncomputable def FT (c:UInt8):Option Bool :=
 some ((decide (97 ≤ (c.toNat:Int))) && (decide ((c.toNat:Int) ≤ 122)))
noncomputable def De (c:UInt8):Option Bool :=
 some ((decide (48 ≤ (c.toNat:Int))) && (decide ((c.toNat:Int) ≤ 57)))
noncomputable def Fg (s_:List UInt8):Int → Option (Int ⊕ (Unit ⊕ Bool))
 | i =>
  if (decide (i < (s_.length:Int))) then
   ck (BA i s_.length) <|
   (FT (s_.getD i.toNat 0)).bind fun y_6 =>
   ck (!(!y_6) || (De (s_.getD i.toNat 0)).isSome) <|
   if (((!y_6) && (!((De (s_.getD i.toNat 0)).getD default))) && (!(((s_.getD i.toNat 0).toNat:Int) == 45))) then
    some (.inr (.inr false))
   else
    some (.inl (IntKind.i64.wrap (i + 1)))
  else
   some (.inr (.inl ()))
noncomputable def Cw (s_:List UInt8):Option Bool :=
 ck (!(!((s_ == ([]:List UInt8)) || (decide (12 < (s_.length:Int))))) || BA 0 s_.length) <|
 ck (!(!((s_ == ([]:List UInt8)) || (decide (12 < (s_.length:Int))))) || (FT (s_.getD 0 0)).isSome) <|
 if (((s_ == ([]:List UInt8)) || (decide (12 < (s_.length:Int)))) || (!((FT (s_.getD 0 0)).getD default))) then
  some false
 else
  (AL (Fg s_) 0).bind fun y_9 =>
  match y_9 with
  | .inl y_9a =>
   some true
  | .inr y_9b =>
   some y_9b
noncomputable def Dk (m:Int):Option Bool :=
 (Dv m (-2000) 20000).bind fun y_1 =>
 some y_1
noncomputable def IC (e_:AA):Option Bool :=
 (Jt e_.Time).bind fun y_1 =>
 ck (!y_1 || (Cw e_.Star).isSome) <|
 ck (!(y_1 && ((Cw e_.Star).getD default)) || (Cw e_.Observer).isSome) <|
 ck (!((y_1 && ((Cw e_.Star).getD default)) && ((Cw e_.Observer).getD default)) || (Dk e_.Mag).isSome) <|
 some (((y_1 && ((Cw e_.Star).getD default)) && ((Cw e_.Observer).getD default)) && ((Dk e_.Mag).getD default))
noncomputable def FO (list:List AA):Int → Option (Int ⊕ (Unit ⊕ Bool))
 | i =>
  if (decide (i < (list.length:Int))) then
   ck (BA i list.length) <|
   (IC (list.getD i.toNat default)).bind fun y_3 =>
   ck (!((!(!y_3)) && (decide (0 < i))) || BA (IntKind.i64.wrap (i - 1)) list.length) <|
   ck (!((!(!y_3)) && (decide (0 < i))) || (CP (list.getD (IntKind.i64.wrap (i - 1)).toNat default) (list.getD i.toNat default)).isSome) <|
   if ((!y_3) || ((decide (0 < i)) && (!((CP (list.getD (IntKind.i64.wrap (i - 1)).toNat default) (list.getD i.toNat default)).getD default)))) then
    some (.inr (.inr false))
   else
    some (.inl (IntKind.i64.wrap (i + 1)))
  else
   some (.inr (.inl ()))
noncomputable def Gl (list:List AA):Option Bool :=
 (AL (FO list) 0).bind fun y_7 =>
 match y_7 with
 | .inl y_7a =>
  some (decide ((list.length:Int) ≤ 100))
 | .inr y_7b =>
  some y_7b
noncomputable def Gy (s_:AQ):Option ((List AA) × AQ) :=
 (Ia s_).bind fun y_1 =>
 if (decide (0 < (y_1.1.length:Int))) then
  (Ag y_1.2 2).bind fun y_3 =>
  if ((decide (0 < (y_1.1.length:Int))) && y_3.1) then
   (AI y_3.2 (y_1.1.length:Int)).bind fun y_5 =>
   ck (BA y_5.1 y_1.1.length) <|
   (AI y_5.2 120).bind fun y_7 =>
   (IC (AA.mk (IntKind.i64.wrap (((y_1.1.getD y_5.1.toNat default).Time) + y_7.1)) ((y_1.1.getD y_5.1.toNat default).Star) ((y_1.1.getD y_5.1.toNat default).Observer) ((y_1.1.getD y_5.1.toNat default).Mag) ((y_1.1.getD y_5.1.toNat default).Fainter))).bind fun y_8 =>
   ck (!y_8 || (EC y_1.1 (AA.mk (IntKind.i64.wrap (((y_1.1.getD y_5.1.toNat default).Time) + y_7.1)) ((y_1.1.getD y_5.1.toNat default).Star) ((y_1.1.getD y_5.1.toNat default).Observer) ((y_1.1.getD y_5.1.toNat default).Mag) ((y_1.1.getD y_5.1.toNat default).Fainter))).isSome) <|
   ck (!(y_8 && (decide (((EC y_1.1 (AA.mk (IntKind.i64.wrap (((y_1.1.getD y_5.1.toNat default).Time) + y_7.1)) ((y_1.1.getD y_5.1.toNat default).Star) ((y_1.1.getD y_5.1.toNat default).Observer) ((y_1.1.getD y_5.1.toNat default).Mag) ((y_1.1.getD y_5.1.toNat default).Fainter))).getD default) < 0))) || (Gl y_1.1).isSome) <|
   if (((y_8 && (decide (((EC y_1.1 (AA.mk (IntKind.i64.wrap (((y_1.1.getD y_5.1.toNat default).Time) + y_7.1)) ((y_1.1.getD y_5.1.toNat default).Star) ((y_1.1.getD y_5.1.toNat default).Observer) ((y_1.1.getD y_5.1.toNat default).Mag) ((y_1.1.getD y_5.1.toNat default).Fainter))).getD default) < 0))) && ((Gl y_1.1).getD default)) && (decide ((y_1.1.length:Int) < 100))) then
    (IB y_1.1 (AA.mk (IntKind.i64.wrap (((y_1.1.getD y_5.1.toNat default).Time) + y_7.1)) ((y_1.1.getD y_5.1.toNat default).Star) ((y_1.1.getD y_5.1.toNat default).Observer) ((y_1.1.getD y_5.1.toNat default).Mag) ((y_1.1.getD y_5.1.toNat default).Fainter))).bind fun y_12 =>
    some (y_12,y_7.2)
   else
    some (y_1.1,y_7.2)
  else
   some (y_1.1,y_3.2)
 else
  some (y_1.1,y_1.2)
noncomputable def JV :Option (List (List UInt8)) :=
 some ([([98,101,116,97,45,108,121,114]:List UInt8),([100,101,108,45,99,101,112]:List UInt8),([109,105,114,97]:List UInt8),([114,45,99,114,98]:List UInt8),([114,114,45,108,121,114]:List UInt8),([115,115,45,99,121,103]:List UInt8)]:List (List UInt8))
noncomputable def Cv (a:Int) (b:Int):Option Int :=
 if (decide (a < b)) then
  some a
 else
  some b
noncomputable def Jd (s_:AQ) (name:List UInt8):Option (Star × AQ) :=
 (AI s_ 86400).bind fun y_1 =>
 (Ag y_1.2 3).bind fun y_2 =>
 if y_2.1 then
  (BH y_2.2 ([0,10,100,86300,86399]:List Int)).bind fun y_4 =>
  (AI y_4.2 648001).bind fun y_5 =>
  (Ag y_5.2 3).bind fun y_6 =>
  if y_6.1 then
   (AI y_6.2 9).bind fun y_8 =>
   (CU y_8.2).bind fun y_9 =>
   (AI y_9.2 40).bind fun y_10 =>
   (Cv 20000 (IntKind.i64.wrap (y_9.1 + (IntKind.i64.wrap (100 * y_10.1))))).bind fun y_11 =>
   some ((Star.mk name y_4.1 (IntKind.i64.wrap (3600 * (IntKind.i64.wrap (y_8.1 - 4)))) y_9.1 y_11),y_10.2)
  else
   (CU y_6.2).bind fun y_12 =>
   (AI y_12.2 40).bind fun y_13 =>
   (Cv 20000 (IntKind.i64.wrap (y_12.1 + (IntKind.i64.wrap (100 * y_13.1))))).bind fun y_14 =>
   some ((Star.mk name y_4.1 (IntKind.i64.wrap (y_5.1 - 324000)) y_12.1 y_14),y_13.2)
 else
  (AI y_2.2 648001).bind fun y_15 =>
  (Ag y_15.2 3).bind fun y_16 =>
  if y_16.1 then
   (AI y_16.2 9).bind fun y_18 =>
   (CU y_18.2).bind fun y_19 =>
   (AI y_19.2 40).bind fun y_20 =>
   (Cv 20000 (IntKind.i64.wrap (y_19.1 + (IntKind.i64.wrap (100 * y_20.1))))).bind fun y_21 =>
   some ((Star.mk name y_1.1 (IntKind.i64.wrap (3600 * (IntKind.i64.wrap (y_18.1 - 4)))) y_19.1 y_21),y_20.2)
  else
   (CU y_16.2).bind fun y_22 =>
   (AI y_22.2 40).bind fun y_23 =>
   (Cv 20000 (IntKind.i64.wrap (y_22.1 + (IntKind.i64.wrap (100 * y_23.1))))).bind fun y_24 =>
   some ((Star.mk name y_1.1 (IntKind.i64.wrap (y_15.1 - 324000)) y_22.1 y_24),y_23.2)
noncomputable def Et (names:List (List UInt8)):(AQ × (List Star) × Int) → Option ((AQ × (List Star) × Int) ⊕ (AQ × (List Star)))
 | (s_,out,k) =>
  if (decide (k < (names.length:Int))) then
   (Ag s_ 2).bind fun y_3 =>
   if y_3.1 then
    ck (BA k names.length) <|
    (Jd y_3.2 (names.getD k.toNat default)).bind fun y_6 =>
    ck (BW (out.length + ([y_6.1]:List Star).length) 48) <|
    some (.inl (y_6.2,(out ++ ([y_6.1]:List Star)),(IntKind.i64.wrap (k + 1))))
   else
    some (.inl (y_3.2,out,(IntKind.i64.wrap (k + 1))))
  else
   some (.inr (s_,out))
noncomputable def Id (s_:AQ):Option ((List Star) × AQ) :=
 (JV).bind fun y_1 =>
 (AL (Et y_1) (s_,([]:List Star),0)).bind fun y_8 =>
 some (y_8.2,y_8.1)
noncomputable def DD (s_:AQ) (x:List Star) (x_ix:Int):Option (AQ × (List Star)) :=
 ck (BA x_ix x.length) <|
 (AI s_ 5).bind fun y_2 =>
 if (y_2.1 == 0) then
  (BO y_2.2 ([([]:List UInt8),([82,82]:List UInt8),([122,122]:List UInt8)]:List (List UInt8))).bind fun y_4 =>
  ck ((x.set x_ix.toNat (Star.mk y_4.1 ((x.getD x_ix.toNat default).Ascend) ((x.getD x_ix.toNat default).Decl) ((x.getD x_ix.toNat default).Bright) ((x.getD x_ix.toNat default).Faint))).length == x.length) <|
  some (y_4.2,(x.set x_ix.toNat (Star.mk y_4.1 ((x.getD x_ix.toNat default).Ascend) ((x.getD x_ix.toNat default).Decl) ((x.getD x_ix.toNat default).Bright) ((x.getD x_ix.toNat default).Faint))))
 else
  if (y_2.1 == 1) then
   (BH y_2.2 ([(-1),0,86399,86400]:List Int)).bind fun y_7 =>
   ck ((x.set x_ix.toNat (Star.mk ((x.getD x_ix.toNat default).Name) y_7.1 ((x.getD x_ix.toNat default).Decl) ((x.getD x_ix.toNat default).Bright) ((x.getD x_ix.toNat default).Faint))).length == x.length) <|
   some (y_7.2,(x.set x_ix.toNat (Star.mk ((x.getD x_ix.toNat default).Name) y_7.1 ((x.getD x_ix.toNat default).Decl) ((x.getD x_ix.toNat default).Bright) ((x.getD x_ix.toNat default).Faint))))
  else
   if (y_2.1 == 2) then
    (BH y_2.2 ([(-324001),(-324000),324000,324001]:List Int)).bind fun y_10 =>
    ck ((x.set x_ix.toNat (Star.mk ((x.getD x_ix.toNat default).Name) ((x.getD x_ix.toNat default).Ascend) y_10.1 ((x.getD x_ix.toNat default).Bright) ((x.getD x_ix.toNat default).Faint))).length == x.length) <|
    some (y_10.2,(x.set x_ix.toNat (Star.mk ((x.getD x_ix.toNat default).Name) ((x.getD x_ix.toNat default).Ascend) y_10.1 ((x.getD x_ix.toNat default).Bright) ((x.getD x_ix.toNat default).Faint))))
   else
    if (y_2.1 == 3) then
     (Fy y_2.2).bind fun y_13 =>
     ck ((x.set x_ix.toNat (Star.mk ((x.getD x_ix.toNat default).Name) ((x.getD x_ix.toNat default).Ascend) ((x.getD x_ix.toNat default).Decl) y_13.1 ((x.getD x_ix.toNat default).Faint))).length == x.length) <|
     some (y_13.2,(x.set x_ix.toNat (Star.mk ((x.getD x_ix.toNat default).Name) ((x.getD x_ix.toNat default).Ascend) ((x.getD x_ix.toNat default).Decl) y_13.1 ((x.getD x_ix.toNat default).Faint))))
    else
     if (y_2.1 == 4) then
      (Fy y_2.2).bind fun y_16 =>
      ck ((x.set x_ix.toNat (Star.mk ((x.getD x_ix.toNat default).Name) ((x.getD x_ix.toNat default).Ascend) ((x.getD x_ix.toNat default).Decl) ((x.getD x_ix.toNat default).Bright) y_16.1)).length == x.length) <|
      some (y_16.2,(x.set x_ix.toNat (Star.mk ((x.getD x_ix.toNat default).Name) ((x.getD x_ix.toNat default).Ascend) ((x.getD x_ix.toNat default).Decl) ((x.getD x_ix.toNat default).Bright) y_16.1)))
     else
      some (y_2.2,x)
noncomputable def Du (s_:AQ):((List Star) × Int) → Option (((List Star) × Int) ⊕ (List Star))
 | (list,k) =>
  if (decide (0 < k)) then
   ck (nz 26) <|
   ck (IJ ([115]:List UInt8).length ([(MY (IntKind.u8.wrap (IntKind.i64.wrap (97 + (IntKind.i64.wrap ((list.length:Int).tdiv 26)))))),(MY (IntKind.u8.wrap (IntKind.i64.wrap (97 + ((list.length:Int).tmod 26)))))]:List UInt8).length) <|
   ck (BW (list.length + ([(Star.mk (([115]:List UInt8) ++ ([(MY (IntKind.u8.wrap (IntKind.i64.wrap (97 + (IntKind.i64.wrap ((list.length:Int).tdiv 26)))))),(MY (IntKind.u8.wrap (IntKind.i64.wrap (97 + ((list.length:Int).tmod 26)))))]:List UInt8)) (list.length:Int) 0 9000 (IntKind.i64.wrap (9000 + (list.length:Int))))]:List Star).length) 48) <|
   some (.inl ((list ++ ([(Star.mk (([115]:List UInt8) ++ ([(MY (IntKind.u8.wrap (IntKind.i64.wrap (97 + (IntKind.i64.wrap ((list.length:Int).tdiv 26)))))),(MY (IntKind.u8.wrap (IntKind.i64.wrap (97 + ((list.length:Int).tmod 26)))))]:List UInt8)) (list.length:Int) 0 9000 (IntKind.i64.wrap (9000 + (list.length:Int))))]:List Star)),(IntKind.i64.wrap (k - 1))))
  else
   some (.inr list)
noncomputable def Ie (s_:AQ):Option ((List Star) × AQ) :=
 (Id s_).bind fun y_1 =>
 (Ag y_1.2 24).bind fun y_2 =>
 if y_2.1 then
  (AI y_2.2 2).bind fun y_4 =>
  (AL (Du y_4.2) (([]:List Star),(IntKind.i64.wrap (60 + y_4.1)))).bind fun y_9 =>
  if (decide (0 < (y_9.length:Int))) then
   (Ag y_4.2 10).bind fun y_11 =>
   if ((decide (0 < (y_9.length:Int))) && y_11.1) then
    (AI y_11.2 (y_9.length:Int)).bind fun y_13 =>
    ck (BA y_13.1 y_9.length) <|
    (DD y_13.2 y_9 y_13.1).bind fun y_15 =>
    some (y_15.2,y_15.1)
   else
    some (y_9,y_11.2)
  else
   some (y_9,y_4.2)
 else
  if (decide (0 < (y_1.1.length:Int))) then
   (Ag y_2.2 10).bind fun y_17 =>
   if ((decide (0 < (y_1.1.length:Int))) && y_17.1) then
    (AI y_17.2 (y_1.1.length:Int)).bind fun y_19 =>
    ck (BA y_19.1 y_1.1.length) <|
    (DD y_19.2 y_1.1 y_19.1).bind fun y_21 =>
    some (y_21.2,y_21.1)
   else
    some (y_1.1,y_17.2)
  else
   some (y_1.1,y_2.2)
noncomputable def JU :Option (List (List UInt8)) :=
 some ([([97,98]:List UInt8),([99,100,45,49]:List UInt8),([101,118,101]:List UInt8),([107,105,109]:List UInt8),([108,111,117]:List UInt8),([122,101,100]:List UInt8)]:List (List UInt8))
noncomputable def Ds (names:List (List UInt8)):(AQ × (List Observer) × Int) → Option ((AQ × (List Observer) × Int) ⊕ (AQ × (List Observer)))
 | (s_,out,k) =>
  if (decide (k < (names.length:Int))) then
   (Ag s_ 3).bind fun y_3 =>
   if y_3.1 then
    some (.inl (y_3.2,out,(IntKind.i64.wrap (k + 1))))
   else
    ck (BA k names.length) <|
    (AI y_3.2 60).bind fun y_6 =>
    ck (BW (out.length + ([(Observer.mk (names.getD k.toNat default) (IntKind.i64.wrap ((IntKind.i64.wrap (10 * y_6.1)) - 300)))]:List Observer).length) 24) <|
    some (.inl (y_6.2,(out ++ ([(Observer.mk (names.getD k.toNat default) (IntKind.i64.wrap ((IntKind.i64.wrap (10 * y_6.1)) - 300)))]:List Observer)),(IntKind.i64.wrap (k + 1))))
  else
   some (.inr (s_,out))
noncomputable def Ib (s_:AQ):Option ((List Observer) × AQ) :=
 (JU).bind fun y_1 =>
 (AL (Ds y_1) (s_,([]:List Observer),0)).bind fun y_8 =>
 some (y_8.2,y_8.1)
noncomputable def Dt (s_:AQ):((List Observer) × Int) → Option (((List Observer) × Int) ⊕ (List Observer))
 | (list,k) =>
  if (decide (0 < k)) then
   ck (nz 26) <|
   ck (IJ ([111]:List UInt8).length ([(MY (IntKind.u8.wrap (IntKind.i64.wrap (97 + (IntKind.i64.wrap ((list.length:Int).tdiv 26)))))),(MY (IntKind.u8.wrap (IntKind.i64.wrap (97 + ((list.length:Int).tmod 26)))))]:List UInt8).length) <|
   ck (BW (list.length + ([(Observer.mk (([111]:List UInt8) ++ ([(MY (IntKind.u8.wrap (IntKind.i64.wrap (97 + (IntKind.i64.wrap ((list.length:Int).tdiv 26)))))),(MY (IntKind.u8.wrap (IntKind.i64.wrap (97 + ((list.length:Int).tmod 26)))))]:List UInt8)) (list.length:Int))]:List Observer).length) 24) <|
   some (.inl ((list ++ ([(Observer.mk (([111]:List UInt8) ++ ([(MY (IntKind.u8.wrap (IntKind.i64.wrap (97 + (IntKind.i64.wrap ((list.length:Int).tdiv 26)))))),(MY (IntKind.u8.wrap (IntKind.i64.wrap (97 + ((list.length:Int).tmod 26)))))]:List UInt8)) (list.length:Int))]:List Observer)),(IntKind.i64.wrap (k - 1))))
  else
   some (.inr list)
noncomputable def HC (s_:AQ):Option ((List Observer) × AQ) :=
 (Ib s_).bind fun y_1 =>
 (Ag y_1.2 24).bind fun y_2 =>
 if y_2.1 then
  (AI y_2.2 2).bind fun y_4 =>
  (AL (Dt y_4.2) (([]:List Observer),(IntKind.i64.wrap (40 + y_4.1)))).bind fun y_9 =>
  if ((y_9.length:Int) == 0) then
   some (y_9,y_4.2)
  else
   (AI y_4.2 (y_9.length:Int)).bind fun y_11 =>
   ck (BA y_11.1 y_9.length) <|
   (AI y_11.2 16).bind fun y_13 =>
   if (y_13.1 == 0) then
    (BO y_13.2 ([([]:List UInt8),([65,98]:List UInt8),([97,98]:List UInt8),([122,122]:List UInt8)]:List (List UInt8))).bind fun y_15 =>
    some ((y_9.set y_11.1.toNat (Observer.mk y_15.1 ((y_9.getD y_11.1.toNat default).Shift))),y_15.2)
   else
    if (y_13.1 == 1) then
     (BH y_13.2 ([(-2001),(-2000),0,2000,2001,(-9223372036854775808)]:List Int)).bind fun y_17 =>
     some ((y_9.set y_11.1.toNat (Observer.mk ((y_9.getD y_11.1.toNat default).Name) y_17.1)),y_17.2)
    else
     some (y_9,y_13.2)
 else
  if ((y_1.1.length:Int) == 0) then
   some (y_1.1,y_2.2)
  else
   (AI y_2.2 (y_1.1.length:Int)).bind fun y_19 =>
   ck (BA y_19.1 y_1.1.length) <|
   (AI y_19.2 16).bind fun y_21 =>
   if (y_21.1 == 0) then
    (BO y_21.2 ([([]:List UInt8),([65,98]:List UInt8),([97,98]:List UInt8),([122,122]:List UInt8)]:List (List UInt8))).bind fun y_23 =>
    some ((y_1.1.set y_19.1.toNat (Observer.mk y_23.1 ((y_1.1.getD y_19.1.toNat default).Shift))),y_23.2)
   else
    if (y_21.1 == 1) then
     (BH y_21.2 ([(-2001),(-2000),0,2000,2001,(-9223372036854775808)]:List Int)).bind fun y_25 =>
     some ((y_1.1.set y_19.1.toNat (Observer.mk ((y_1.1.getD y_19.1.toNat default).Name) y_25.1)),y_25.2)
    else
     some (y_1.1,y_21.2)
noncomputable def Hd (s_:AQ):Option ((List Star) × (List Observer) × AQ) :=
 (Ie s_).bind fun y_1 =>
 (Ag y_1.2 2).bind fun y_2 =>
 if y_2.1 then
  ck (BW (([(Observer.mk ([97,98]:List UInt8) 0)]:List Observer).length + ([(Observer.mk ([99,100]:List UInt8) 0)]:List Observer).length) 24) <|
  (Ag y_2.2 8).bind fun y_5 =>
  if y_5.1 then
   (HC y_5.2).bind fun y_7 =>
   some (y_1.1,y_7.1,y_7.2)
  else
   some (y_1.1,(([(Observer.mk ([97,98]:List UInt8) 0)]:List Observer) ++ ([(Observer.mk ([99,100]:List UInt8) 0)]:List Observer)),y_5.2)
 else
  (Ag y_2.2 8).bind fun y_8 =>
  if y_8.1 then
   (HC y_8.2).bind fun y_10 =>
   some (y_1.1,y_10.1,y_10.2)
  else
   some (y_1.1,([(Observer.mk ([97,98]:List UInt8) 0)]:List Observer),y_8.2)
noncomputable def Cy (code:List UInt8):Option ((List AA) × (List Star) × (List Observer) × Int) :=
 (Ey code).bind fun y_1 =>
 (Gy y_1).bind fun y_2 =>
 (Hd y_2.2).bind fun y_3 =>
 (Ag y_3.2.2 12).bind fun y_4 =>
 if y_4.1 then
  (BH y_4.2 ([(-1),0,20000,20001]:List Int)).bind fun y_6 =>
  some (y_2.1,y_3.1,y_3.2.1,y_6.1)
 else
  (AI y_4.2 9).bind fun y_7 =>
  some (y_2.1,y_3.1,y_3.2.1,(IntKind.i64.wrap (100 * y_7.1)))
noncomputable def Ee (n:Int) (low:Int) (high:Int):Option Bool :=
 some ((decide (low ≤ n)) && (decide (n ≤ high)))
noncomputable def Io (t:Int):Option Bool :=
 (Ee t 0 10000000).bind fun y_1 =>
 some y_1
noncomputable def Fk (s_:List UInt8) (t15:Int):Int → Option (Int ⊕ (Unit ⊕ Bool))
 | t16 =>
  if (decide (t16 < t15)) then
   ck (BA t16 s_.length) <|
   if ((!((decide (97 ≤ ((s_.getD t16.toNat 0).toNat:Int))) && (decide (((s_.getD t16.toNat 0).toNat:Int) ≤ 122)))) && ((t16 == 0) || (!(((decide (48 ≤ ((s_.getD t16.toNat 0).toNat:Int))) && (decide (((s_.getD t16.toNat 0).toNat:Int) ≤ 57))) || (((s_.getD t16.toNat 0).toNat:Int) == 45))))) then
    some (.inr (.inr false))
   else
    some (.inl (IntKind.i64.wrap (t16 + 1)))
  else
   some (.inr (.inl ()))
noncomputable def Cz (s_:List UInt8):Option Bool :=
 if ((decide ((s_.length:Int) < 1)) || (decide (12 < (s_.length:Int)))) then
  some false
 else
  (AL (Fk s_ (s_.length:Int)) 0).bind fun y_5 =>
  match y_5 with
  | .inl y_5a =>
   some true
  | .inr y_5b =>
   some y_5b
noncomputable def Cm (m:Int):Option Bool :=
 (Ee m (-2000) 20000).bind fun y_1 =>
 some y_1
noncomputable def GP (e_:AA):Option Bool :=
 (Io e_.Time).bind fun y_1 =>
 ck (!y_1 || (Cz e_.Star).isSome) <|
 ck (!(y_1 && ((Cz e_.Star).getD default)) || (Cz e_.Observer).isSome) <|
 ck (!((y_1 && ((Cz e_.Star).getD default)) && ((Cz e_.Observer).getD default)) || (Cm e_.Mag).isSome) <|
 some (((y_1 && ((Cz e_.Star).getD default)) && ((Cz e_.Observer).getD default)) && ((Cm e_.Mag).getD default))
noncomputable def GR (x:Int):Option Bool :=
 some (!(x == x))
noncomputable def FJ (x:Int) (y:Int):Option Int :=
 (GR x).bind fun y_1 =>
 (GR y).bind fun y_2 =>
 if y_1 then
  if y_2 then
   some 0
  else
   some (-1)
 else
  if y_2 then
   some 1
  else
   if (decide (x < y)) then
    some (-1)
   else
    if (decide (y < x)) then
     some 1
    else
     some 0
noncomputable def Db (a:List UInt8) (b:List UInt8):Option Int :=
 (AGg a b).bind fun y_1 =>
 some y_1
noncomputable def GM (a:List UInt8) (b:List UInt8):Option Int :=
 (Db a b).bind fun y_1 =>
 some y_1
noncomputable def GW (zero:Int) (t6:List Int) (t7:Int):Int → Option (Int ⊕ (Unit ⊕ Int))
 | t8 =>
  if (decide (t8 < t7)) then
   ck (BA t8 t6.length) <|
   if (!((t6.getD t8.toNat default) == zero)) then
    some (.inr (.inr (t6.getD t8.toNat default)))
   else
    some (.inl (IntKind.i64.wrap (t8 + 1)))
  else
   some (.inr (.inl ()))
noncomputable def KO (vals:List Int):Option Int :=
 (AL (GW 0 vals (vals.length:Int)) 0).bind fun y_4 =>
 match y_4 with
 | .inl y_4a =>
  some 0
 | .inr y_4b =>
  some y_4b
noncomputable def Ck (a:AA) (b:AA):Option Int :=
 (FJ a.Time b.Time).bind fun y_1 =>
 (GM a.Star b.Star).bind fun y_2 =>
 (GM a.Observer b.Observer).bind fun y_3 =>
 (KO ([y_1,y_2,y_3]:List Int)).bind fun y_4 =>
 some y_4
noncomputable def CF (list:List AA) (t8:List AA) (t9:Int):Int → Option (Int ⊕ (Unit ⊕ Bool))
 | t10 =>
  if (decide (t10 < t9)) then
   ck (BA t10 t8.length) <|
   (GP (t8.getD t10.toNat default)).bind fun y_4 =>
   ck (!((!(!y_4)) && (decide (0 < t10))) || BA (IntKind.i64.wrap (t10 - 1)) list.length) <|
   ck (!((!(!y_4)) && (decide (0 < t10))) || (Ck (list.getD (IntKind.i64.wrap (t10 - 1)).toNat default) (t8.getD t10.toNat default)).isSome) <|
   if ((!y_4) || ((decide (0 < t10)) && (decide (0 ≤ ((Ck (list.getD (IntKind.i64.wrap (t10 - 1)).toNat default) (t8.getD t10.toNat default)).getD default))))) then
    some (.inr (.inr false))
   else
    some (.inl (IntKind.i64.wrap (t10 + 1)))
  else
   some (.inr (.inl ()))
noncomputable def DS (list:List AA):Option Bool :=
 if (decide (100 < (list.length:Int))) then
  some false
 else
  (AL (CF list list (list.length:Int)) 0).bind fun y_8 =>
  match y_8 with
  | .inl y_8a =>
   some true
  | .inr y_8b =>
   some y_8b
noncomputable def Jg (x:Star):Option Bool :=
 (Ee x.Ascend 0 86399).bind fun y_1 =>
 ck (!y_1 || (Ee x.Decl (-324000) 324000).isSome) <|
 (Cz x.Name).bind fun y_3 =>
 ck (!(y_3 && (y_1 && ((Ee x.Decl (-324000) 324000).getD default))) || (Cm x.Bright).isSome) <|
 ck (!((y_3 && (y_1 && ((Ee x.Decl (-324000) 324000).getD default))) && ((Cm x.Bright).getD default)) || (Cm x.Faint).isSome) <|
 some ((((y_3 && (y_1 && ((Ee x.Decl (-324000) 324000).getD default))) && ((Cm x.Bright).getD default)) && ((Cm x.Faint).getD default)) && (decide (x.Bright ≤ x.Faint)))
noncomputable def FV (x:Star):Option (List UInt8) :=
 some x.Name
noncomputable def Ai (list:List Star) (t15:List Star) (t16:Int):Int → Option (Int ⊕ (Unit ⊕ Bool))
 | t17 =>
  if (decide (t17 < t16)) then
   ck (BA t17 t15.length) <|
   (Jg (t15.getD t17.toNat default)).bind fun y_4 =>
   ck (!((!(!y_4)) && (decide (0 < t17))) || BA (IntKind.i64.wrap (t17 - 1)) list.length) <|
   ck (!((!(!y_4)) && (decide (0 < t17))) || (FV (list.getD (IntKind.i64.wrap (t17 - 1)).toNat default)).isSome) <|
   ck (!((!(!y_4)) && (decide (0 < t17))) || (FV (t15.getD t17.toNat default)).isSome) <|
   if ((!y_4) || ((decide (0 < t17)) && (!(Op.bytesLess ((FV (list.getD (IntKind.i64.wrap (t17 - 1)).toNat default)).getD default) ((FV (t15.getD t17.toNat default)).getD default))))) then
    some (.inr (.inr false))
   else
    some (.inl (IntKind.i64.wrap (t17 + 1)))
  else
   some (.inr (.inl ()))
noncomputable def BT (list:List Star) (most:Int):Option Bool :=
 if (decide (most < (list.length:Int))) then
  some false
 else
  (AL (Ai list list (list.length:Int)) 0).bind fun y_9 =>
  match y_9 with
  | .inl y_9a =>
   some true
  | .inr y_9b =>
   some y_9b
noncomputable def Dx (list:List Star):Option Bool :=
 (BT list 60).bind fun y_1 =>
 some y_1
noncomputable def GO (x:Observer):Option Bool :=
 (Cz x.Name).bind fun y_1 =>
 ck (!y_1 || (Ee x.Shift (-2000) 2000).isSome) <|
 some (y_1 && ((Ee x.Shift (-2000) 2000).getD default))
noncomputable def DH (x:Observer):Option (List UInt8) :=
 some x.Name
noncomputable def AY (list:List Observer) (t15:List Observer) (t16:Int):Int → Option (Int ⊕ (Unit ⊕ Bool))
 | t17 =>
  if (decide (t17 < t16)) then
   ck (BA t17 t15.length) <|
   (GO (t15.getD t17.toNat default)).bind fun y_4 =>
   ck (!((!(!y_4)) && (decide (0 < t17))) || BA (IntKind.i64.wrap (t17 - 1)) list.length) <|
   ck (!((!(!y_4)) && (decide (0 < t17))) || (DH (list.getD (IntKind.i64.wrap (t17 - 1)).toNat default)).isSome) <|
   ck (!((!(!y_4)) && (decide (0 < t17))) || (DH (t15.getD t17.toNat default)).isSome) <|
   if ((!y_4) || ((decide (0 < t17)) && (!(Op.bytesLess ((DH (list.getD (IntKind.i64.wrap (t17 - 1)).toNat default)).getD default) ((DH (t15.getD t17.toNat default)).getD default))))) then
    some (.inr (.inr false))
   else
    some (.inl (IntKind.i64.wrap (t17 + 1)))
  else
   some (.inr (.inl ()))
noncomputable def BD (list:List Observer) (most:Int):Option Bool :=
 if (decide (most < (list.length:Int))) then
  some false
 else
  (AL (AY list list (list.length:Int)) 0).bind fun y_9 =>
  match y_9 with
  | .inl y_9a =>
   some true
  | .inr y_9b =>
   some y_9b
noncomputable def DR (list:List Observer):Option Bool :=
 (BD list 40).bind fun y_1 =>
 some y_1
noncomputable def Hp (x:Star) (t1:AA):Option Bool :=
 some (x.Name == t1.Star)
noncomputable def Ao (s_:List Star) (c:AA) (t7:Int):Int → Option (Int ⊕ (Unit ⊕ Int))
 | t8 =>
  if (decide (t8 < t7)) then
   ck (BA t8 s_.length) <|
   (Hp (s_.getD t8.toNat default) c).bind fun y_3 =>
   if y_3 then
    some (.inr (.inr t8))
   else
    some (.inl (IntKind.i64.wrap (t8 + 1)))
  else
   some (.inr (.inl ()))
noncomputable def BM (s_:List Star) (f_c0:AA):Option Int :=
 (AL (Ao s_ f_c0 (s_.length:Int)) 0).bind fun y_5 =>
 match y_5 with
 | .inl y_5a =>
  some (-1)
 | .inr y_5b =>
  some y_5b
noncomputable def BZ (list:List Star) (wanted_c0:AA):Option (Int × Int) :=
 (BM list wanted_c0).bind fun y_1 =>
 if (decide (0 ≤ y_1)) then
  some (y_1,0)
 else
  some (0,3)
noncomputable def FD (x:Observer) (t1:List UInt8):Option Bool :=
 some (x.Name == t1)
noncomputable def AZ (s_:List Observer) (c:List UInt8) (t7:Int):Int → Option (Int ⊕ (Unit ⊕ Int))
 | t8 =>
  if (decide (t8 < t7)) then
   ck (BA t8 s_.length) <|
   (FD (s_.getD t8.toNat default) c).bind fun y_3 =>
   if y_3 then
    some (.inr (.inr t8))
   else
    some (.inl (IntKind.i64.wrap (t8 + 1)))
  else
   some (.inr (.inl ()))
noncomputable def Aw (s_:List Observer) (f_c0:List UInt8):Option Int :=
 (AL (AZ s_ f_c0 (s_.length:Int)) 0).bind fun y_5 =>
 match y_5 with
 | .inl y_5a =>
  some (-1)
 | .inr y_5b =>
  some y_5b
noncomputable def BU (list:List Observer) (wanted_c0:List UInt8):Option (Int × Int) :=
 (Aw list wanted_c0).bind fun y_1 =>
 if (decide (0 ≤ y_1)) then
  some (y_1,0)
 else
  some (0,3)
noncomputable def FE (list:List Observer) (name:List UInt8):Option (Int × Int) :=
 (BU list name).bind fun y_1 =>
 some (y_1.1,y_1.2)
noncomputable def Ho (x:AA) (t1:AA):Option Bool :=
 some (((x.Star == t1.Star) && (x.Observer == t1.Observer)) && (decide ((IntKind.i64.wrap (t1.Time - x.Time)) < 100)))
noncomputable def Ad (s_:List AA) (c:AA) (t7:Int):Int → Option (Int ⊕ (Unit ⊕ Int))
 | t8 =>
  if (decide (t8 < t7)) then
   ck (BA t8 s_.length) <|
   (Ho (s_.getD t8.toNat default) c).bind fun y_3 =>
   if y_3 then
    some (.inr (.inr t8))
   else
    some (.inl (IntKind.i64.wrap (t8 + 1)))
  else
   some (.inr (.inl ()))
noncomputable def BC (s_:List AA) (f_c0:AA):Option Int :=
 (AL (Ad s_ f_c0 (s_.length:Int)) 0).bind fun y_5 =>
 match y_5 with
 | .inl y_5a =>
  some (-1)
 | .inr y_5b =>
  some y_5b
noncomputable def Aq (s_:List AA) (f_c0:AA):Option Bool :=
 (BC s_ f_c0).bind fun y_1 =>
 some (decide (0 ≤ y_1))
def kd (k:Int) (b:Bool):List Int:=if b = true then [k] else []
noncomputable def EF (list:List AA) (i:Int) (stars:List Star) (observers:List Observer) (margin:Int):Option (List Int) :=
 ck (BA i list.length) <|
 (BZ stars (list.getD i.toNat default)).bind fun y =>
 (FE observers (list.getD i.toNat default).Observer).bind fun z =>
 ck (!(y.2 == 0) || BA y.1 stars.length) <|
 ck (FI 0 i list.length) <|
 (Aq (cut list 0 i) (list.getD i.toNat default)).bind fun t =>
 some (kd 1 (!(y.2 == 0)) ++ kd 2 (!(z.2 == 0)) ++
  (if y.2 == 0 then kd 3 (decide ((list.getD i.toNat default).Mag < IntKind.i64.wrap ((stars.getD y.1.toNat default).Bright - margin))) ++
   kd 4 (!(list.getD i.toNat default).Fainter && decide (IntKind.i64.wrap ((stars.getD y.1.toNat default).Faint + margin) < (list.getD i.toNat default).Mag)) else []) ++ kd 5 t)
noncomputable def CG (list:List AA) (stars:List Star) (observers:List Observer) (margin:Int) (i:Int) (t34:Int) (t35:Int) (t43:List Int) (t44:Int):((List AJ) × Int) → Option (((List AJ) × Int) ⊕ (List AJ))
 | (out,t45) =>
  if (decide (t45 < t44)) then
   ck (BA t45 t43.length) <|
   ck (BW (out.length + ([(AJ.mk i (t43.getD t45.toNat default))]:List AJ).length) 16) <|
   some (.inl ((out ++ ([(AJ.mk i (t43.getD t45.toNat default))]:List AJ)),(IntKind.i64.wrap (t45 + 1))))
  else
   some (.inr out)
noncomputable def BS (list:List AA) (stars:List Star) (observers:List Observer) (margin:Int) (t34:Int):((List AJ) × Int) → Option (((List AJ) × Int) ⊕ (List AJ))
 | (out,t35) =>
  if (decide (t35 < t34)) then
   (EF list t35 stars observers margin).bind fun y_8 =>
   (AL (CG list stars observers margin t35 t34 t35 y_8 (y_8.length:Int)) (out,0)).bind fun y_12 =>
   some (.inl (y_12,(IntKind.i64.wrap (t35 + 1))))
  else
   some (.inr out)
noncomputable def Bj (list:List AA) (stars:List Star) (observers:List Observer) (margin:Int):Option ((List AJ) × Int) :=
 (DS list).bind fun y_1 =>
 ck (!(!(!y_1)) || (Dx stars).isSome) <|
 ck (!(!((!y_1) || (!((Dx stars).getD default)))) || (DR observers).isSome) <|
 if (((!y_1) || (!((Dx stars).getD default))) || (!((DR observers).getD default))) then
  some (([]:List AJ),1)
 else
  (Ee margin 0 20000).bind fun y_5 =>
  if (!y_5) then
   some (([]:List AJ),2)
  else
   (AL (BS list stars observers margin (list.length:Int)) (([]:List AJ),0)).bind fun y_13 =>
   some (y_13,0)
noncomputable def Dj (n:Int):Option Bool :=
 (Dv n 0 86399).bind fun y_1 =>
 some y_1
noncomputable def Fx (n:Int):Option Bool :=
 (Dv n (-324000) 324000).bind fun y_1 =>
 some y_1
noncomputable def Jc (x:Star):Option Bool :=
 (Cw x.Name).bind fun y_1 =>
 ck (!y_1 || (Dj x.Ascend).isSome) <|
 ck (!(y_1 && ((Dj x.Ascend).getD default)) || (Fx x.Decl).isSome) <|
 ck (!((y_1 && ((Dj x.Ascend).getD default)) && ((Fx x.Decl).getD default)) || (Dk x.Bright).isSome) <|
 ck (!(((y_1 && ((Dj x.Ascend).getD default)) && ((Fx x.Decl).getD default)) && ((Dk x.Bright).getD default)) || (Dk x.Faint).isSome) <|
 some (((((y_1 && ((Dj x.Ascend).getD default)) && ((Fx x.Decl).getD default)) && ((Dk x.Bright).getD default)) && ((Dk x.Faint).getD default)) && (decide (x.Bright ≤ x.Faint)))
noncomputable def FQ (list:List Star):Int → Option (Int ⊕ (Unit ⊕ Bool))
 | i =>
  if (decide (i < (list.length:Int))) then
   ck (BA i list.length) <|
   (Jc (list.getD i.toNat default)).bind fun y_3 =>
   ck (!((!(!y_3)) && (decide (0 < i))) || BA (IntKind.i64.wrap (i - 1)) list.length) <|
   if ((!y_3) || ((decide (0 < i)) && (!(Op.bytesLess ((list.getD (IntKind.i64.wrap (i - 1)).toNat default).Name) ((list.getD i.toNat default).Name))))) then
    some (.inr (.inr false))
   else
    some (.inl (IntKind.i64.wrap (i + 1)))
  else
   some (.inr (.inl ()))
noncomputable def Hw (list:List Star):Option Bool :=
 (AL (FQ list) 0).bind fun y_6 =>
 match y_6 with
 | .inl y_6a =>
  some (decide ((list.length:Int) ≤ 60))
 | .inr y_6b =>
  some y_6b
noncomputable def Jb (x:Observer):Option Bool :=
 (Cw x.Name).bind fun y_1 =>
 ck (!y_1 || (Dv x.Shift (-2000) 2000).isSome) <|
 some (y_1 && ((Dv x.Shift (-2000) 2000).getD default))
noncomputable def FP (list:List Observer):Int → Option (Int ⊕ (Unit ⊕ Bool))
 | i =>
  if (decide (i < (list.length:Int))) then
   ck (BA i list.length) <|
   (Jb (list.getD i.toNat default)).bind fun y_3 =>
   ck (!((!(!y_3)) && (decide (0 < i))) || BA (IntKind.i64.wrap (i - 1)) list.length) <|
   if ((!y_3) || ((decide (0 < i)) && (!(Op.bytesLess ((list.getD (IntKind.i64.wrap (i - 1)).toNat default).Name) ((list.getD i.toNat default).Name))))) then
    some (.inr (.inr false))
   else
    some (.inl (IntKind.i64.wrap (i + 1)))
  else
   some (.inr (.inl ()))
noncomputable def JH (list:List Observer):Option Bool :=
 (AL (FP list) 0).bind fun y_6 =>
 match y_6 with
 | .inl y_6a =>
  some (decide ((list.length:Int) ≤ 40))
 | .inr y_6b =>
  some y_6b
noncomputable def Es (list:List Star) (name:List UInt8):Int → Option (Int ⊕ (Unit ⊕ Int))
 | i =>
  if (decide (i < (list.length:Int))) then
   ck (BA i list.length) <|
   if (((list.getD i.toNat default).Name) == name) then
    some (.inr (.inr i))
   else
    some (.inl (IntKind.i64.wrap (i + 1)))
  else
   some (.inr (.inl ()))
noncomputable def Ic (list:List Star) (name:List UInt8):Option Int :=
 (AL (Es list name) 0).bind fun y_4 =>
 match y_4 with
 | .inl y_4a =>
  some (-1)
 | .inr y_4b =>
  some y_4b
noncomputable def Er (list:List Observer) (name:List UInt8):Int → Option (Int ⊕ (Unit ⊕ Int))
 | i =>
  if (decide (i < (list.length:Int))) then
   ck (BA i list.length) <|
   if (((list.getD i.toNat default).Name) == name) then
    some (.inr (.inr i))
   else
    some (.inl (IntKind.i64.wrap (i + 1)))
  else
   some (.inr (.inl ()))
noncomputable def HA (list:List Observer) (name:List UInt8):Option Int :=
 (AL (Er list name) 0).bind fun y_4 =>
 match y_4 with
 | .inl y_4a =>
  some (-1)
 | .inr y_4b =>
  some y_4b
noncomputable def BN (list:List AA) (out:List Int) (e_:AA):Int → Option (Int ⊕ (List Int))
 | j =>
  if (decide (0 ≤ j)) then
   ck (BA j list.length) <|
   if (((((list.getD j.toNat default).Star) == e_.Star) && (((list.getD j.toNat default).Observer) == e_.Observer)) && (decide ((IntKind.i64.wrap (e_.Time - ((list.getD j.toNat default).Time))) < 100))) then
    ck (BW (out.length + ([5]:List Int).length) 8) <|
    some (.inr (out ++ ([5]:List Int)))
   else
    some (.inl (IntKind.i64.wrap (j - 1)))
  else
   some (.inr out)
noncomputable def JT (list:List AA) (out:List Int) (e_:AA):Int → Option (Int ⊕ (List Int))
 | j =>
  if (decide (0 ≤ j)) then
   ck (BA j list.length) <|
   if (((((list.getD j.toNat default).Star) == e_.Star) && (((list.getD j.toNat default).Observer) == e_.Observer)) && (decide ((IntKind.i64.wrap (e_.Time - ((list.getD j.toNat default).Time))) < 100))) then
    ck (BW (out.length + ([5]:List Int).length) 8) <|
    some (.inr (out ++ ([5]:List Int)))
   else
    some (.inl (IntKind.i64.wrap (j - 1)))
  else
   some (.inr out)
noncomputable def JS (list:List AA) (out:List Int) (e_:AA):Int → Option (Int ⊕ (List Int))
 | j =>
  if (decide (0 ≤ j)) then
   ck (BA j list.length) <|
   if (((((list.getD j.toNat default).Star) == e_.Star) && (((list.getD j.toNat default).Observer) == e_.Observer)) && (decide ((IntKind.i64.wrap (e_.Time - ((list.getD j.toNat default).Time))) < 100))) then
    ck (BW (out.length + ([5]:List Int).length) 8) <|
    some (.inr (out ++ ([5]:List Int)))
   else
    some (.inl (IntKind.i64.wrap (j - 1)))
  else
   some (.inr out)
noncomputable def JR (list:List AA) (out:List Int) (e_:AA):Int → Option (Int ⊕ (List Int))
 | j =>
  if (decide (0 ≤ j)) then
   ck (BA j list.length) <|
   if (((((list.getD j.toNat default).Star) == e_.Star) && (((list.getD j.toNat default).Observer) == e_.Observer)) && (decide ((IntKind.i64.wrap (e_.Time - ((list.getD j.toNat default).Time))) < 100))) then
    ck (BW (out.length + ([5]:List Int).length) 8) <|
    some (.inr (out ++ ([5]:List Int)))
   else
    some (.inl (IntKind.i64.wrap (j - 1)))
  else
   some (.inr out)
noncomputable def JQ (list:List AA) (out:List Int) (e_:AA):Int → Option (Int ⊕ (List Int))
 | j =>
  if (decide (0 ≤ j)) then
   ck (BA j list.length) <|
   if (((((list.getD j.toNat default).Star) == e_.Star) && (((list.getD j.toNat default).Observer) == e_.Observer)) && (decide ((IntKind.i64.wrap (e_.Time - ((list.getD j.toNat default).Time))) < 100))) then
    ck (BW (out.length + ([5]:List Int).length) 8) <|
    some (.inr (out ++ ([5]:List Int)))
   else
    some (.inl (IntKind.i64.wrap (j - 1)))
  else
   some (.inr out)
noncomputable def JP (list:List AA) (out:List Int) (e_:AA):Int → Option (Int ⊕ (List Int))
 | j =>
  if (decide (0 ≤ j)) then
   ck (BA j list.length) <|
   if (((((list.getD j.toNat default).Star) == e_.Star) && (((list.getD j.toNat default).Observer) == e_.Observer)) && (decide ((IntKind.i64.wrap (e_.Time - ((list.getD j.toNat default).Time))) < 100))) then
    ck (BW (out.length + ([5]:List Int).length) 8) <|
    some (.inr (out ++ ([5]:List Int)))
   else
    some (.inl (IntKind.i64.wrap (j - 1)))
  else
   some (.inr out)
noncomputable def JO (list:List AA) (out:List Int) (e_:AA):Int → Option (Int ⊕ (List Int))
 | j =>
  if (decide (0 ≤ j)) then
   ck (BA j list.length) <|
   if (((((list.getD j.toNat default).Star) == e_.Star) && (((list.getD j.toNat default).Observer) == e_.Observer)) && (decide ((IntKind.i64.wrap (e_.Time - ((list.getD j.toNat default).Time))) < 100))) then
    ck (BW (out.length + ([5]:List Int).length) 8) <|
    some (.inr (out ++ ([5]:List Int)))
   else
    some (.inl (IntKind.i64.wrap (j - 1)))
  else
   some (.inr out)
noncomputable def JN (list:List AA) (out:List Int) (e_:AA):Int → Option (Int ⊕ (List Int))
 | j =>
  if (decide (0 ≤ j)) then
   ck (BA j list.length) <|
   if (((((list.getD j.toNat default).Star) == e_.Star) && (((list.getD j.toNat default).Observer) == e_.Observer)) && (decide ((IntKind.i64.wrap (e_.Time - ((list.getD j.toNat default).Time))) < 100))) then
    ck (BW (out.length + ([5]:List Int).length) 8) <|
    some (.inr (out ++ ([5]:List Int)))
   else
    some (.inl (IntKind.i64.wrap (j - 1)))
  else
   some (.inr out)
noncomputable def JM (list:List AA) (out:List Int) (e_:AA):Int → Option (Int ⊕ (List Int))
 | j =>
  if (decide (0 ≤ j)) then
   ck (BA j list.length) <|
   if (((((list.getD j.toNat default).Star) == e_.Star) && (((list.getD j.toNat default).Observer) == e_.Observer)) && (decide ((IntKind.i64.wrap (e_.Time - ((list.getD j.toNat default).Time))) < 100))) then
    ck (BW (out.length + ([5]:List Int).length) 8) <|
    some (.inr (out ++ ([5]:List Int)))
   else
    some (.inl (IntKind.i64.wrap (j - 1)))
  else
   some (.inr out)
noncomputable def IY (list:List AA) (out:List Int) (e_:AA):Int → Option (Int ⊕ (List Int))
 | j =>
  if (decide (0 ≤ j)) then
   ck (BA j list.length) <|
   if (((((list.getD j.toNat default).Star) == e_.Star) && (((list.getD j.toNat default).Observer) == e_.Observer)) && (decide ((IntKind.i64.wrap (e_.Time - ((list.getD j.toNat default).Time))) < 100))) then
    ck (BW (out.length + ([5]:List Int).length) 8) <|
    some (.inr (out ++ ([5]:List Int)))
   else
    some (.inl (IntKind.i64.wrap (j - 1)))
  else
   some (.inr out)
noncomputable def IX (list:List AA) (out:List Int) (e_:AA):Int → Option (Int ⊕ (List Int))
 | j =>
  if (decide (0 ≤ j)) then
   ck (BA j list.length) <|
   if (((((list.getD j.toNat default).Star) == e_.Star) && (((list.getD j.toNat default).Observer) == e_.Observer)) && (decide ((IntKind.i64.wrap (e_.Time - ((list.getD j.toNat default).Time))) < 100))) then
    ck (BW (out.length + ([5]:List Int).length) 8) <|
    some (.inr (out ++ ([5]:List Int)))
   else
    some (.inl (IntKind.i64.wrap (j - 1)))
  else
   some (.inr out)
noncomputable def IW (list:List AA) (out:List Int) (e_:AA):Int → Option (Int ⊕ (List Int))
 | j =>
  if (decide (0 ≤ j)) then
   ck (BA j list.length) <|
   if (((((list.getD j.toNat default).Star) == e_.Star) && (((list.getD j.toNat default).Observer) == e_.Observer)) && (decide ((IntKind.i64.wrap (e_.Time - ((list.getD j.toNat default).Time))) < 100))) then
    ck (BW (out.length + ([5]:List Int).length) 8) <|
    some (.inr (out ++ ([5]:List Int)))
   else
    some (.inl (IntKind.i64.wrap (j - 1)))
  else
   some (.inr out)
noncomputable def IU (list:List AA) (out:List Int) (e_:AA):Int → Option (Int ⊕ (List Int))
 | j =>
  if (decide (0 ≤ j)) then
   ck (BA j list.length) <|
   if (((((list.getD j.toNat default).Star) == e_.Star) && (((list.getD j.toNat default).Observer) == e_.Observer)) && (decide ((IntKind.i64.wrap (e_.Time - ((list.getD j.toNat default).Time))) < 100))) then
    ck (BW (out.length + ([5]:List Int).length) 8) <|
    some (.inr (out ++ ([5]:List Int)))
   else
    some (.inl (IntKind.i64.wrap (j - 1)))
  else
   some (.inr out)
noncomputable def IT (list:List AA) (out:List Int) (e_:AA):Int → Option (Int ⊕ (List Int))
 | j =>
  if (decide (0 ≤ j)) then
   ck (BA j list.length) <|
   if (((((list.getD j.toNat default).Star) == e_.Star) && (((list.getD j.toNat default).Observer) == e_.Observer)) && (decide ((IntKind.i64.wrap (e_.Time - ((list.getD j.toNat default).Time))) < 100))) then
    ck (BW (out.length + ([5]:List Int).length) 8) <|
    some (.inr (out ++ ([5]:List Int)))
   else
    some (.inl (IntKind.i64.wrap (j - 1)))
  else
   some (.inr out)
noncomputable def IS (list:List AA) (out:List Int) (e_:AA):Int → Option (Int ⊕ (List Int))
 | j =>
  if (decide (0 ≤ j)) then
   ck (BA j list.length) <|
   if (((((list.getD j.toNat default).Star) == e_.Star) && (((list.getD j.toNat default).Observer) == e_.Observer)) && (decide ((IntKind.i64.wrap (e_.Time - ((list.getD j.toNat default).Time))) < 100))) then
    ck (BW (out.length + ([5]:List Int).length) 8) <|
    some (.inr (out ++ ([5]:List Int)))
   else
    some (.inl (IntKind.i64.wrap (j - 1)))
  else
   some (.inr out)
noncomputable def IQ (list:List AA) (out:List Int) (e_:AA):Int → Option (Int ⊕ (List Int))
 | j =>
  if (decide (0 ≤ j)) then
   ck (BA j list.length) <|
   if (((((list.getD j.toNat default).Star) == e_.Star) && (((list.getD j.toNat default).Observer) == e_.Observer)) && (decide ((IntKind.i64.wrap (e_.Time - ((list.getD j.toNat default).Time))) < 100))) then
    ck (BW (out.length + ([5]:List Int).length) 8) <|
    some (.inr (out ++ ([5]:List Int)))
   else
    some (.inl (IntKind.i64.wrap (j - 1)))
  else
   some (.inr out)
noncomputable def KE (list:List AA) (i:Int) (stars:List Star) (observers:List Observer) (margin:Int):Option (List Int) :=
 ck (BA i list.length) <|
 (Ic stars ((list.getD i.toNat default).Star)).bind fun y_2 =>
 if (decide (y_2 < 0)) then
  ck (BW (([]:List Int).length + ([1]:List Int).length) 8) <|
  (HA observers ((list.getD i.toNat default).Observer)).bind fun y_5 =>
  if (decide (y_5 < 0)) then
   ck (BW ((([]:List Int) ++ ([1]:List Int)).length + ([2]:List Int).length) 8) <|
   ck (!(decide (0 ≤ y_2)) || BA y_2 stars.length) <|
   if ((decide (0 ≤ y_2)) && (decide (((list.getD i.toNat default).Mag) < (IntKind.i64.wrap (((stars.getD y_2.toNat default).Bright) - margin))))) then
    ck (BW (((([]:List Int) ++ ([1]:List Int)) ++ ([2]:List Int)).length + ([3]:List Int).length) 8) <|
    ck (!((decide (0 ≤ y_2)) && (!((list.getD i.toNat default).Fainter))) || BA y_2 stars.length) <|
    if (((decide (0 ≤ y_2)) && (!((list.getD i.toNat default).Fainter))) && (decide ((IntKind.i64.wrap (((stars.getD y_2.toNat default).Faint) + margin)) < ((list.getD i.toNat default).Mag)))) then
     ck (BW ((((([]:List Int) ++ ([1]:List Int)) ++ ([2]:List Int)) ++ ([3]:List Int)).length + ([4]:List Int).length) 8) <|
     (AL (BN list ((((([]:List Int) ++ ([1]:List Int)) ++ ([2]:List Int)) ++ ([3]:List Int)) ++ ([4]:List Int)) (list.getD i.toNat default)) (IntKind.i64.wrap (i - 1))).bind fun y_18 =>
     some y_18
    else
     (AL (JT list (((([]:List Int) ++ ([1]:List Int)) ++ ([2]:List Int)) ++ ([3]:List Int)) (list.getD i.toNat default)) (IntKind.i64.wrap (i - 1))).bind fun y_23 =>
     some y_23
   else
    ck (!((decide (0 ≤ y_2)) && (!((list.getD i.toNat default).Fainter))) || BA y_2 stars.length) <|
    if (((decide (0 ≤ y_2)) && (!((list.getD i.toNat default).Fainter))) && (decide ((IntKind.i64.wrap (((stars.getD y_2.toNat default).Faint) + margin)) < ((list.getD i.toNat default).Mag)))) then
     ck (BW (((([]:List Int) ++ ([1]:List Int)) ++ ([2]:List Int)).length + ([4]:List Int).length) 8) <|
     (AL (JS list (((([]:List Int) ++ ([1]:List Int)) ++ ([2]:List Int)) ++ ([4]:List Int)) (list.getD i.toNat default)) (IntKind.i64.wrap (i - 1))).bind fun y_31 =>
     some y_31
    else
     (AL (JR list ((([]:List Int) ++ ([1]:List Int)) ++ ([2]:List Int)) (list.getD i.toNat default)) (IntKind.i64.wrap (i - 1))).bind fun y_36 =>
     some y_36
  else
   ck (!(decide (0 ≤ y_2)) || BA y_2 stars.length) <|
   if ((decide (0 ≤ y_2)) && (decide (((list.getD i.toNat default).Mag) < (IntKind.i64.wrap (((stars.getD y_2.toNat default).Bright) - margin))))) then
    ck (BW ((([]:List Int) ++ ([1]:List Int)).length + ([3]:List Int).length) 8) <|
    ck (!((decide (0 ≤ y_2)) && (!((list.getD i.toNat default).Fainter))) || BA y_2 stars.length) <|
    if (((decide (0 ≤ y_2)) && (!((list.getD i.toNat default).Fainter))) && (decide ((IntKind.i64.wrap (((stars.getD y_2.toNat default).Faint) + margin)) < ((list.getD i.toNat default).Mag)))) then
     ck (BW (((([]:List Int) ++ ([1]:List Int)) ++ ([3]:List Int)).length + ([4]:List Int).length) 8) <|
     (AL (JQ list (((([]:List Int) ++ ([1]:List Int)) ++ ([3]:List Int)) ++ ([4]:List Int)) (list.getD i.toNat default)) (IntKind.i64.wrap (i - 1))).bind fun y_47 =>
     some y_47
    else
     (AL (JP list ((([]:List Int) ++ ([1]:List Int)) ++ ([3]:List Int)) (list.getD i.toNat default)) (IntKind.i64.wrap (i - 1))).bind fun y_52 =>
     some y_52
   else
    ck (!((decide (0 ≤ y_2)) && (!((list.getD i.toNat default).Fainter))) || BA y_2 stars.length) <|
    if (((decide (0 ≤ y_2)) && (!((list.getD i.toNat default).Fainter))) && (decide ((IntKind.i64.wrap (((stars.getD y_2.toNat default).Faint) + margin)) < ((list.getD i.toNat default).Mag)))) then
     ck (BW ((([]:List Int) ++ ([1]:List Int)).length + ([4]:List Int).length) 8) <|
     (AL (JO list ((([]:List Int) ++ ([1]:List Int)) ++ ([4]:List Int)) (list.getD i.toNat default)) (IntKind.i64.wrap (i - 1))).bind fun y_60 =>
     some y_60
    else
     (AL (JN list (([]:List Int) ++ ([1]:List Int)) (list.getD i.toNat default)) (IntKind.i64.wrap (i - 1))).bind fun y_65 =>
     some y_65
 else
  (HA observers ((list.getD i.toNat default).Observer)).bind fun y_66 =>
  if (decide (y_66 < 0)) then
   ck (BW (([]:List Int).length + ([2]:List Int).length) 8) <|
   ck (!(decide (0 ≤ y_2)) || BA y_2 stars.length) <|
   if ((decide (0 ≤ y_2)) && (decide (((list.getD i.toNat default).Mag) < (IntKind.i64.wrap (((stars.getD y_2.toNat default).Bright) - margin))))) then
    ck (BW ((([]:List Int) ++ ([2]:List Int)).length + ([3]:List Int).length) 8) <|
    ck (!((decide (0 ≤ y_2)) && (!((list.getD i.toNat default).Fainter))) || BA y_2 stars.length) <|
    if (((decide (0 ≤ y_2)) && (!((list.getD i.toNat default).Fainter))) && (decide ((IntKind.i64.wrap (((stars.getD y_2.toNat default).Faint) + margin)) < ((list.getD i.toNat default).Mag)))) then
     ck (BW (((([]:List Int) ++ ([2]:List Int)) ++ ([3]:List Int)).length + ([4]:List Int).length) 8) <|
     (AL (JM list (((([]:List Int) ++ ([2]:List Int)) ++ ([3]:List Int)) ++ ([4]:List Int)) (list.getD i.toNat default)) (IntKind.i64.wrap (i - 1))).bind fun y_79 =>
     some y_79
    else
     (AL (IY list ((([]:List Int) ++ ([2]:List Int)) ++ ([3]:List Int)) (list.getD i.toNat default)) (IntKind.i64.wrap (i - 1))).bind fun y_84 =>
     some y_84
   else
    ck (!((decide (0 ≤ y_2)) && (!((list.getD i.toNat default).Fainter))) || BA y_2 stars.length) <|
    if (((decide (0 ≤ y_2)) && (!((list.getD i.toNat default).Fainter))) && (decide ((IntKind.i64.wrap (((stars.getD y_2.toNat default).Faint) + margin)) < ((list.getD i.toNat default).Mag)))) then
     ck (BW ((([]:List Int) ++ ([2]:List Int)).length + ([4]:List Int).length) 8) <|
     (AL (IX list ((([]:List Int) ++ ([2]:List Int)) ++ ([4]:List Int)) (list.getD i.toNat default)) (IntKind.i64.wrap (i - 1))).bind fun y_92 =>
     some y_92
    else
     (AL (IW list (([]:List Int) ++ ([2]:List Int)) (list.getD i.toNat default)) (IntKind.i64.wrap (i - 1))).bind fun y_97 =>
     some y_97
  else
   ck (!(decide (0 ≤ y_2)) || BA y_2 stars.length) <|
   if ((decide (0 ≤ y_2)) && (decide (((list.getD i.toNat default).Mag) < (IntKind.i64.wrap (((stars.getD y_2.toNat default).Bright) - margin))))) then
    ck (BW (([]:List Int).length + ([3]:List Int).length) 8) <|
    ck (!((decide (0 ≤ y_2)) && (!((list.getD i.toNat default).Fainter))) || BA y_2 stars.length) <|
    if (((decide (0 ≤ y_2)) && (!((list.getD i.toNat default).Fainter))) && (decide ((IntKind.i64.wrap (((stars.getD y_2.toNat default).Faint) + margin)) < ((list.getD i.toNat default).Mag)))) then
     ck (BW ((([]:List Int) ++ ([3]:List Int)).length + ([4]:List Int).length) 8) <|
     (AL (IU list ((([]:List Int) ++ ([3]:List Int)) ++ ([4]:List Int)) (list.getD i.toNat default)) (IntKind.i64.wrap (i - 1))).bind fun y_108 =>
     some y_108
    else
     (AL (IT list (([]:List Int) ++ ([3]:List Int)) (list.getD i.toNat default)) (IntKind.i64.wrap (i - 1))).bind fun y_113 =>
     some y_113
   else
    ck (!((decide (0 ≤ y_2)) && (!((list.getD i.toNat default).Fainter))) || BA y_2 stars.length) <|
    if (((decide (0 ≤ y_2)) && (!((list.getD i.toNat default).Fainter))) && (decide ((IntKind.i64.wrap (((stars.getD y_2.toNat default).Faint) + margin)) < ((list.getD i.toNat default).Mag)))) then
     ck (BW (([]:List Int).length + ([4]:List Int).length) 8) <|
     (AL (IS list (([]:List Int) ++ ([4]:List Int)) (list.getD i.toNat default)) (IntKind.i64.wrap (i - 1))).bind fun y_121 =>
     some y_121
    else
     (AL (IQ list ([]:List Int) (list.getD i.toNat default)) (IntKind.i64.wrap (i - 1))).bind fun y_126 =>
     some y_126
noncomputable def DE (list:List AA) (stars:List Star) (observers:List Observer) (margin:Int) (i:Int) (kinds:List Int):((List AJ) × Int) → Option (((List AJ) × Int) ⊕ (List AJ))
 | (out,k) =>
  if (decide (k < (kinds.length:Int))) then
   ck (BA k kinds.length) <|
   ck (BW (out.length + ([(AJ.mk i (kinds.getD k.toNat default))]:List AJ).length) 16) <|
   some (.inl ((out ++ ([(AJ.mk i (kinds.getD k.toNat default))]:List AJ)),(IntKind.i64.wrap (k + 1))))
  else
   some (.inr out)
noncomputable def CE (list:List AA) (stars:List Star) (observers:List Observer) (margin:Int):((List AJ) × Int) → Option (((List AJ) × Int) ⊕ (List AJ))
 | (out,i) =>
  if (decide (i < (list.length:Int))) then
   (KE list i stars observers margin).bind fun y_8 =>
   (AL (DE list stars observers margin i y_8) (out,0)).bind fun y_12 =>
   some (.inl (y_12,(IntKind.i64.wrap (i + 1))))
  else
   some (.inr out)
noncomputable def DO (list:List AA) (stars:List Star) (observers:List Observer) (margin:Int):Option ((List AJ) × Int) :=
 (Gl list).bind fun y_1 =>
 ck (!(!(!y_1)) || (Hw stars).isSome) <|
 ck (!(!((!y_1) || (!((Hw stars).getD default)))) || (JH observers).isSome) <|
 if (((!y_1) || (!((Hw stars).getD default))) || (!((JH observers).getD default))) then
  some (([]:List AJ),1)
 else
  (Dv margin 0 20000).bind fun y_5 =>
  if (!y_5) then
   some (([]:List AJ),2)
  else
   (AL (CE list stars observers margin) (([]:List AJ),0)).bind fun y_13 =>
   some (y_13,0)
noncomputable def Fv (n:Int):Option Bool :=
 (Dv n 1 5).bind fun y_1 =>
 some y_1
noncomputable def Cd (faults:List AJ) (count:Int):Int → Option (Int ⊕ (Unit ⊕ Bool))
 | i =>
  if (decide (i < (faults.length:Int))) then
   ck (BA i faults.length) <|
   (Dv ((faults.getD i.toNat default).Index) 0 (IntKind.i64.wrap (count - 1))).bind fun y_3 =>
   ck (!(!(!y_3)) || (Fv ((faults.getD i.toNat default).Kind)).isSome) <|
   if ((!y_3) || (!((Fv ((faults.getD i.toNat default).Kind)).getD default))) then
    some (.inr (.inr false))
   else
    ck (!(decide (0 < i)) || BA (IntKind.i64.wrap (i - 1)) faults.length) <|
    ck (!((decide (0 < i)) && !(decide (((faults.getD i.toNat default).Index) < ((faults.getD (IntKind.i64.wrap (i - 1)).toNat default).Index)))) || BA (IntKind.i64.wrap (i - 1)) faults.length) <|
    ck (!(((decide (0 < i)) && !(decide (((faults.getD i.toNat default).Index) < ((faults.getD (IntKind.i64.wrap (i - 1)).toNat default).Index)))) && (((faults.getD (IntKind.i64.wrap (i - 1)).toNat default).Index) == ((faults.getD i.toNat default).Index))) || BA (IntKind.i64.wrap (i - 1)) faults.length) <|
    if ((decide (0 < i)) && ((decide (((faults.getD i.toNat default).Index) < ((faults.getD (IntKind.i64.wrap (i - 1)).toNat default).Index))) || ((((faults.getD (IntKind.i64.wrap (i - 1)).toNat default).Index) == ((faults.getD i.toNat default).Index)) && (decide (((faults.getD i.toNat default).Kind) ≤ ((faults.getD (IntKind.i64.wrap (i - 1)).toNat default).Kind)))))) then
     some (.inr (.inr false))
    else
     some (.inl (IntKind.i64.wrap (i + 1)))
  else
   some (.inr (.inl ()))
noncomputable def CH (faults:List AJ) (count:Int):Option Bool :=
 (AL (Cd faults count) 0).bind fun y_10 =>
 match y_10 with
 | .inl y_10a =>
  some true
 | .inr y_10b =>
  some y_10b
noncomputable def El (count:Int):(AQ × (List AJ) × Int) → Option ((AQ × (List AJ) × Int) ⊕ (AQ × (List AJ)))
 | (s_,out,i) =>
  (Cv count 12).bind fun y_1 =>
  if (decide (i < y_1)) then
   (Ag s_ 3).bind fun y_3 =>
   if y_3.1 then
    (AI y_3.2 5).bind fun y_5 =>
    ck (BW (out.length + ([(AJ.mk i (IntKind.i64.wrap (1 + y_5.1)))]:List AJ).length) 16) <|
    (Ag y_5.2 8).bind fun y_7 =>
    if y_7.1 then
     (AI y_7.2 5).bind fun y_9 =>
     ck (BW ((out ++ ([(AJ.mk i (IntKind.i64.wrap (1 + y_5.1)))]:List AJ)).length + ([(AJ.mk i (IntKind.i64.wrap (1 + y_9.1)))]:List AJ).length) 16) <|
     (CH ((out ++ ([(AJ.mk i (IntKind.i64.wrap (1 + y_5.1)))]:List AJ)) ++ ([(AJ.mk i (IntKind.i64.wrap (1 + y_9.1)))]:List AJ)) count).bind fun y_11 =>
     if (!y_11) then
      ck (FI 0 (IntKind.i64.wrap ((((out ++ ([(AJ.mk i (IntKind.i64.wrap (1 + y_5.1)))]:List AJ)) ++ ([(AJ.mk i (IntKind.i64.wrap (1 + y_9.1)))]:List AJ)).length:Int) - 1)) (((out ++ ([(AJ.mk i (IntKind.i64.wrap (1 + y_5.1)))]:List AJ)) ++ ([(AJ.mk i (IntKind.i64.wrap (1 + y_9.1)))]:List AJ)).length)) <|
      some (.inl (y_9.2,(((out ++ ([(AJ.mk i (IntKind.i64.wrap (1 + y_5.1)))]:List AJ)) ++ ([(AJ.mk i (IntKind.i64.wrap (1 + y_9.1)))]:List AJ)).take (IntKind.i64.wrap ((((out ++ ([(AJ.mk i (IntKind.i64.wrap (1 + y_5.1)))]:List AJ)) ++ ([(AJ.mk i (IntKind.i64.wrap (1 + y_9.1)))]:List AJ)).length:Int) - 1)).toNat),(IntKind.i64.wrap (i + 1))))
     else
      some (.inl (y_9.2,((out ++ ([(AJ.mk i (IntKind.i64.wrap (1 + y_5.1)))]:List AJ)) ++ ([(AJ.mk i (IntKind.i64.wrap (1 + y_9.1)))]:List AJ)),(IntKind.i64.wrap (i + 1))))
    else
     some (.inl (y_7.2,(out ++ ([(AJ.mk i (IntKind.i64.wrap (1 + y_5.1)))]:List AJ)),(IntKind.i64.wrap (i + 1))))
   else
    (Ag y_3.2 8).bind fun y_14 =>
    if y_14.1 then
     (AI y_14.2 5).bind fun y_16 =>
     ck (BW (out.length + ([(AJ.mk i (IntKind.i64.wrap (1 + y_16.1)))]:List AJ).length) 16) <|
     (CH (out ++ ([(AJ.mk i (IntKind.i64.wrap (1 + y_16.1)))]:List AJ)) count).bind fun y_18 =>
     if (!y_18) then
      ck (FI 0 (IntKind.i64.wrap (((out ++ ([(AJ.mk i (IntKind.i64.wrap (1 + y_16.1)))]:List AJ)).length:Int) - 1)) ((out ++ ([(AJ.mk i (IntKind.i64.wrap (1 + y_16.1)))]:List AJ)).length)) <|
      some (.inl (y_16.2,((out ++ ([(AJ.mk i (IntKind.i64.wrap (1 + y_16.1)))]:List AJ)).take (IntKind.i64.wrap (((out ++ ([(AJ.mk i (IntKind.i64.wrap (1 + y_16.1)))]:List AJ)).length:Int) - 1)).toNat),(IntKind.i64.wrap (i + 1))))
     else
      some (.inl (y_16.2,(out ++ ([(AJ.mk i (IntKind.i64.wrap (1 + y_16.1)))]:List AJ)),(IntKind.i64.wrap (i + 1))))
    else
     some (.inl (y_14.2,out,(IntKind.i64.wrap (i + 1))))
  else
   some (.inr (s_,out))
noncomputable def IZ (s_:AQ) (count:Int):Option ((List AJ) × AQ) :=
 (AL (El count) (s_,([]:List AJ),0)).bind fun y_21 =>
 if (decide (0 < (y_21.2.length:Int))) then
  (Ag y_21.1 10).bind fun y_23 =>
  if ((decide (0 < (y_21.2.length:Int))) && y_23.1) then
   (AI y_23.2 (y_21.2.length:Int)).bind fun y_25 =>
   ck (BA y_25.1 y_21.2.length) <|
   (BH y_25.2 ([0,5,6,(-1)]:List Int)).bind fun y_27 =>
   (BH y_27.2 ([(y_21.2.getD y_25.1.toNat default).Index,(IntKind.i64.wrap (((y_21.2.getD y_25.1.toNat default).Index) + 1)),(-1),count,100]:List Int)).bind fun y_28 =>
   some ((y_21.2.set y_25.1.toNat (AJ.mk y_28.1 y_27.1)),y_28.2)
  else
   some (y_21.2,y_23.2)
 else
  some (y_21.2,y_21.1)
noncomputable def Js (code:List UInt8):Option ((List AA) × (List AJ)) :=
 (Ey code).bind fun y_1 =>
 (Gy y_1).bind fun y_2 =>
 (IZ y_2.2 (y_2.1.length:Int)).bind fun y_3 =>
 some (y_2.1,y_3.1)
noncomputable def Cx (code:List UInt8):Option ((List AA) × (List AJ)) :=
 (Js code).bind fun y_1 =>
 some (y_1.1,y_1.2)
noncomputable def Dg (list:List AA):Option Int :=
 some (list.length:Int)
noncomputable def GN (faults:List AJ) (estimates:Int) (t7:List AJ) (t8:Int):Int → Option (Int ⊕ (Unit ⊕ Bool))
 | t9 =>
  if (decide (t9 < t8)) then
   ck (BA t9 t7.length) <|
   (Ee ((t7.getD t9.toNat default).Index) 0 (IntKind.i64.wrap (estimates - 1))).bind fun y_3 =>
   ck (!(!(!y_3)) || (Ee ((t7.getD t9.toNat default).Kind) 1 5).isSome) <|
   if ((!y_3) || (!((Ee ((t7.getD t9.toNat default).Kind) 1 5).getD default))) then
    some (.inr (.inr false))
   else
    ck (!(decide (0 < t9)) || BA (IntKind.i64.wrap (t9 - 1)) faults.length) <|
    ck (!((decide (0 < t9)) && !(decide (((t7.getD t9.toNat default).Index) < ((faults.getD (IntKind.i64.wrap (t9 - 1)).toNat default).Index)))) || BA (IntKind.i64.wrap (t9 - 1)) faults.length) <|
    ck (!(((decide (0 < t9)) && !(decide (((t7.getD t9.toNat default).Index) < ((faults.getD (IntKind.i64.wrap (t9 - 1)).toNat default).Index)))) && (((faults.getD (IntKind.i64.wrap (t9 - 1)).toNat default).Index) == ((t7.getD t9.toNat default).Index))) || BA (IntKind.i64.wrap (t9 - 1)) faults.length) <|
    if ((decide (0 < t9)) && ((decide (((t7.getD t9.toNat default).Index) < ((faults.getD (IntKind.i64.wrap (t9 - 1)).toNat default).Index))) || ((((faults.getD (IntKind.i64.wrap (t9 - 1)).toNat default).Index) == ((t7.getD t9.toNat default).Index)) && (decide (((t7.getD t9.toNat default).Kind) ≤ ((faults.getD (IntKind.i64.wrap (t9 - 1)).toNat default).Kind)))))) then
     some (.inr (.inr false))
    else
     some (.inl (IntKind.i64.wrap (t9 + 1)))
  else
   some (.inr (.inl ()))
noncomputable def HJ (faults:List AJ) (estimates:Int):Option Bool :=
 (AL (GN faults estimates faults (faults.length:Int)) 0).bind fun y_10 =>
 match y_10 with
 | .inl y_10a =>
  some true
 | .inr y_10b =>
  some y_10b
noncomputable def GD (list:List AA) (faults:List AJ):Option Int :=
 (DS list).bind fun y_1 =>
 if (!y_1) then
  some 1
 else
  (Dg list).bind fun y_3 =>
  (HJ faults y_3).bind fun y_4 =>
  if (!y_4) then
   some 2
  else
   some 0
noncomputable def HM (x:AJ) (t1:Int):Option Bool :=
 some (x.Index == t1)
noncomputable def Aj (s_:List AJ) (c:Int) (t7:Int):Int → Option (Int ⊕ (Unit ⊕ Int))
 | t8 =>
  if (decide (t8 < t7)) then
   ck (BA t8 s_.length) <|
   (HM (s_.getD t8.toNat default) c).bind fun y_3 =>
   if y_3 then
    some (.inr (.inr t8))
   else
    some (.inl (IntKind.i64.wrap (t8 + 1)))
  else
   some (.inr (.inl ()))
noncomputable def BI (s_:List AJ) (f_c0:Int):Option Int :=
 (AL (Aj s_ f_c0 (s_.length:Int)) 0).bind fun y_5 =>
 match y_5 with
 | .inl y_5a =>
  some (-1)
 | .inr y_5b =>
  some y_5b
noncomputable def BF (s_:List AJ) (f_c0:Int):Option Bool :=
 (BI s_ f_c0).bind fun y_1 =>
 some (decide (0 ≤ y_1))
noncomputable def GU (faults:List AJ) (i:Int):Option Bool :=
 (BF faults i).bind fun y_1 =>
 some y_1
noncomputable def Bd (faults:List AJ) (t17:List AA) (t18:Int):((List AA) × Int) → Option (((List AA) × Int) ⊕ (List AA))
 | (out,t19) =>
  if (decide (t19 < t18)) then
   ck (BA t19 t17.length) <|
   (GU faults t19).bind fun y_5 =>
   if (!y_5) then
    ck (BW (out.length + ([(t17.getD t19.toNat default)]:List AA).length) 56) <|
    some (.inl ((out ++ ([(t17.getD t19.toNat default)]:List AA)),(IntKind.i64.wrap (t19 + 1))))
   else
    some (.inl (out,(IntKind.i64.wrap (t19 + 1))))
  else
   some (.inr out)
noncomputable def CM (list:List AA) (faults:List AJ):Option ((List AA) × Int) :=
 (GD list faults).bind fun y_1 =>
 if (!(y_1 == 0)) then
  some (([]:List AA),y_1)
 else
  (AL (Bd faults list (list.length:Int)) (([]:List AA),0)).bind fun y_8 =>
  some (y_8,0)
noncomputable def Fw (list:List AA) (faults:List AJ):Option Int :=
 (Gl list).bind fun y_1 =>
 if (!y_1) then
  some 1
 else
  (CH faults (list.length:Int)).bind fun y_3 =>
  if (!y_3) then
   some 2
  else
   some 0
noncomputable def Ff (faults:List AJ) (index:Int):Int → Option (Int ⊕ (Unit ⊕ Bool))
 | i =>
  if (decide (i < (faults.length:Int))) then
   ck (BA i faults.length) <|
   if (((faults.getD i.toNat default).Index) == index) then
    some (.inr (.inr true))
   else
    some (.inl (IntKind.i64.wrap (i + 1)))
  else
   some (.inr (.inl ()))
noncomputable def IA (faults:List AJ) (index:Int):Option Bool :=
 (AL (Ff faults index) 0).bind fun y_4 =>
 match y_4 with
 | .inl y_4a =>
  some false
 | .inr y_4b =>
  some y_4b
noncomputable def CV (list:List AA) (faults:List AJ):((List AA) × Int) → Option (((List AA) × Int) ⊕ (List AA))
 | (out,i) =>
  if (decide (i < (list.length:Int))) then
   (IA faults i).bind fun y_4 =>
   if (!y_4) then
    ck (BA i list.length) <|
    ck (BW (out.length + ([(list.getD i.toNat default)]:List AA).length) 56) <|
    some (.inl ((out ++ ([(list.getD i.toNat default)]:List AA)),(IntKind.i64.wrap (i + 1))))
   else
    some (.inl (out,(IntKind.i64.wrap (i + 1))))
  else
   some (.inr out)
noncomputable def EA (list:List AA) (faults:List AJ):Option ((List AA) × Int) :=
 (Fw list faults).bind fun y_1 =>
 if (!(y_1 == 0)) then
  some (([]:List AA),y_1)
 else
  (AL (CV list faults) (([]:List AA),0)).bind fun y_8 =>
  some (y_8,0)
noncomputable def Hn (e_:AA):Option (List UInt8) :=
 some e_.Observer
noncomputable def BR (t9:List AA) (t10:Int):((List (List UInt8)) × Int) → Option (((List (List UInt8)) × Int) ⊕ (List (List UInt8)))
 | (out,t11) =>
  if (decide (t11 < t10)) then
   ck (BA t11 t9.length) <|
   (Hn (t9.getD t11.toNat default)).bind fun y_3 =>
   ck (BW (out.length + ([y_3]:List (List UInt8)).length) 16) <|
   some (.inl ((out ++ ([y_3]:List (List UInt8))),(IntKind.i64.wrap (t11 + 1))))
  else
   some (.inr out)
noncomputable def Bh (list:List AA):Option (List (List UInt8)) :=
 (AL (BR list (list.length:Int)) (([]:List (List UInt8)),0)).bind fun y_5 =>
 (jk y_5).bind fun y_6 =>
 (Qr y_6).bind fun y_7 =>
 some y_7
noncomputable def Qo (n:Int):Option Int :=
 if (decide (n < 0)) then
  some (IntKind.i64.wrap (0 - n))
 else
  some n
noncomputable def Kn :(Int × Int) → Option ((Int × Int) ⊕ Int)
 | (a,b) =>
  if (!(b == 0)) then
   ck (nz b) <|
   some (.inl (b,(a.tmod b)))
  else
   some (.inr a)
noncomputable def Qn (a:Int) (b:Int):Option Int :=
 (AL (Kn) (a,b)).bind fun y_3 =>
 (Qo y_3).bind fun y_4 =>
 some y_4
noncomputable def Jf (num:Int) (den:Int):Option Ac :=
 (Qn num den).bind fun y_1 =>
 if (decide (den < 0)) then
  ck (nz (IntKind.i64.wrap (0 - y_1))) <|
  some (Ac.mk (IntKind.i64.wrap (num.tdiv (IntKind.i64.wrap (0 - y_1)))) (IntKind.i64.wrap (den.tdiv (IntKind.i64.wrap (0 - y_1)))))
 else
  ck (nz y_1) <|
  some (Ac.mk (IntKind.i64.wrap (num.tdiv y_1)) (IntKind.i64.wrap (den.tdiv y_1)))
noncomputable def Cc (list:List AA) (faults:List AJ) (names:List (List UInt8)) (shares:List Ac) (name:List UInt8) (t18:Int) (t19:Int) (t23:List AA) (t24:Int):(Int × Int × Int) → Option ((Int × Int × Int) ⊕ (Int × Int))
 | (faulty,all,t25) =>
  if (decide (t25 < t24)) then
   ck (BA t25 t23.length) <|
   if (!(((t23.getD t25.toNat default).Observer) == name)) then
    some (.inl (faulty,all,(IntKind.i64.wrap (t25 + 1))))
   else
    (GU faults t25).bind fun y_7 =>
    if y_7 then
     some (.inl ((IntKind.i64.wrap (faulty + 1)),(IntKind.i64.wrap (all + 1)),(IntKind.i64.wrap (t25 + 1))))
    else
     some (.inl (faulty,(IntKind.i64.wrap (all + 1)),(IntKind.i64.wrap (t25 + 1))))
  else
   some (.inr (faulty,all))
noncomputable def DQ (list:List AA) (faults:List AJ) (names:List (List UInt8)) (t18:Int):((List Ac) × Int) → Option (((List Ac) × Int) ⊕ (List Ac))
 | (shares,t19) =>
  if (decide (t19 < t18)) then
   ck (BA t19 names.length) <|
   (AL (Cc list faults names shares (names.getD t19.toNat default) t18 t19 list (list.length:Int)) (0,0,0)).bind fun y_9 =>
   (Jf y_9.1 y_9.2).bind fun y_10 =>
   ck (BW (shares.length + ([y_10]:List Ac).length) 16) <|
   some (.inl ((shares ++ ([y_10]:List Ac)),(IntKind.i64.wrap (t19 + 1))))
  else
   some (.inr shares)
noncomputable def ER (list:List AA) (faults:List AJ):Option ((List (List UInt8)) × (List Ac)) :=
 (Bh list).bind fun y_1 =>
 (AL (DQ list faults y_1 (y_1.length:Int)) (([]:List Ac),0)).bind fun y_12 =>
 some (y_1,y_12)
noncomputable def Fl (list:List AA) (faults:List AJ):Option ((List Ac) × Int) :=
 (GD list faults).bind fun y_1 =>
 if (!(y_1 == 0)) then
  some (([]:List Ac),y_1)
 else
  (ER list faults).bind fun y_3 =>
  some (y_3.2,0)
noncomputable def If (n:Int):Option Int :=
 if (decide (n < 0)) then
  some (IntKind.i64.wrap (0 - n))
 else
  some n
noncomputable def Bw :(Int × Int) → Option ((Int × Int) ⊕ Int)
 | (a,b) =>
  if (!(b == 0)) then
   ck (nz b) <|
   some (.inl (b,(a.tmod b)))
  else
   some (.inr a)
noncomputable def Kg (a:Int) (b:Int):Option Int :=
 (AL (Bw) (a,b)).bind fun y_3 =>
 some y_3
noncomputable def Ig (num:Int) (den:Int):Option Ac :=
 (If num).bind fun y_1 =>
 (Kg y_1 den).bind fun y_2 =>
 ck (nz y_2) <|
 some (Ac.mk (IntKind.i64.wrap (num.tdiv y_2)) (IntKind.i64.wrap (den.tdiv y_2)))
noncomputable def Ct (list:List (List UInt8)) (name:List UInt8):Int → Option (Int ⊕ Int)
 | k =>
  ck (!(decide (0 < k)) || BA (IntKind.i64.wrap (k - 1)) list.length) <|
  if ((decide (0 < k)) && (!(Op.bytesLess (list.getD (IntKind.i64.wrap (k - 1)).toNat default) name || (list.getD (IntKind.i64.wrap (k - 1)).toNat default) == name))) then
   some (.inl (IntKind.i64.wrap (k - 1)))
  else
   some (.inr k)
noncomputable def Em (list:List (List UInt8)) (name:List UInt8):Option (List (List UInt8)) :=
 (AL (Ct list name) (list.length:Int)).bind fun y_3 =>
 ck (!(decide (0 < y_3)) || BA (IntKind.i64.wrap (y_3 - 1)) list.length) <|
 if ((decide (0 < y_3)) && ((list.getD (IntKind.i64.wrap (y_3 - 1)).toNat default) == name)) then
  some list
 else
  ck (FI 0 y_3 list.length) <|
  ck (BW (([]:List (List UInt8)).length + (cut list 0 y_3).length) 16) <|
  ck (BW ((([]:List (List UInt8)) ++ (cut list 0 y_3)).length + ([name]:List (List UInt8)).length) 16) <|
  ck (FI y_3 (list.length:Int) list.length) <|
  ck (BW (((([]:List (List UInt8)) ++ (cut list 0 y_3)) ++ ([name]:List (List UInt8))).length + (cut list y_3 (list.length:Int)).length) 16) <|
  some (((([]:List (List UInt8)) ++ (cut list 0 y_3)) ++ ([name]:List (List UInt8))) ++ (cut list y_3 (list.length:Int)))
noncomputable def EO (list:List AA) (star:Bool):((List (List UInt8)) × Int) → Option (((List (List UInt8)) × Int) ⊕ (List (List UInt8)))
 | (out,i) =>
  if (decide (i < (list.length:Int))) then
   if star then
    ck (BA i list.length) <|
    (Em out ((list.getD i.toNat default).Star)).bind fun y_4 =>
    some (.inl (y_4,(IntKind.i64.wrap (i + 1))))
   else
    ck (BA i list.length) <|
    (Em out ((list.getD i.toNat default).Observer)).bind fun y_6 =>
    some (.inl (y_6,(IntKind.i64.wrap (i + 1))))
  else
   some (.inr out)
noncomputable def GS (list:List AA) (star:Bool):Option (List (List UInt8)) :=
 (AL (EO list star) (([]:List (List UInt8)),0)).bind fun y_7 =>
 some y_7
noncomputable def Cp (list:List (List UInt8)) (name:List UInt8):Int → Option (Int ⊕ (Unit ⊕ Int))
 | i =>
  if (decide (i < (list.length:Int))) then
   ck (BA i list.length) <|
   if ((list.getD i.toNat default) == name) then
    some (.inr (.inr i))
   else
    some (.inl (IntKind.i64.wrap (i + 1)))
  else
   some (.inr (.inl ()))
noncomputable def Ew (list:List (List UInt8)) (name:List UInt8):Option Int :=
 (AL (Cp list name) 0).bind fun y_4 =>
 match y_4 with
 | .inl y_4a =>
  some (-1)
 | .inr y_4b =>
  some y_4b
noncomputable def DC (list:List AA) (faults:List AJ) (names:List (List UInt8)):((List Int) × (List Int) × Int) → Option (((List Int) × (List Int) × Int) ⊕ ((List Int) × (List Int)))
 | (bad,all,i) =>
  if (decide (i < (list.length:Int))) then
   ck (BA i list.length) <|
   (Ew names ((list.getD i.toNat default).Observer)).bind fun y_5 =>
   ck (BA y_5 all.length) <|
   (IA faults i).bind fun y_7 =>
   if y_7 then
    ck (BA y_5 bad.length) <|
    some (.inl ((bad.set y_5.toNat (IntKind.i64.wrap ((bad.getD y_5.toNat default) + 1))),(all.set y_5.toNat (IntKind.i64.wrap ((all.getD y_5.toNat default) + 1))),(IntKind.i64.wrap (i + 1))))
   else
    some (.inl (bad,(all.set y_5.toNat (IntKind.i64.wrap ((all.getD y_5.toNat default) + 1))),(IntKind.i64.wrap (i + 1))))
  else
   some (.inr (bad,all))
noncomputable def Fe (list:List AA) (faults:List AJ):Option ((List (List UInt8)) × (List Int) × (List Int)) :=
 (GS list false).bind fun y_1 =>
 ck (qc (y_1.length:Int) 8) <|
 (AL (DC list faults y_1) ((List.replicate (y_1.length:Int).toNat (0:Int)),(List.replicate (y_1.length:Int).toNat (0:Int)),0)).bind fun y_10 =>
 some (y_1,y_10.1,y_10.2)
noncomputable def DN (names:List (List UInt8)) (bad:List Int) (all:List Int):((List Ac) × Int) → Option (((List Ac) × Int) ⊕ (List Ac))
 | (out,i) =>
  if (decide (i < (names.length:Int))) then
   ck (BA i bad.length) <|
   ck (BA i all.length) <|
   (Ig (bad.getD i.toNat default) (all.getD i.toNat default)).bind fun y_7 =>
   ck (BW (out.length + ([y_7]:List Ac).length) 16) <|
   some (.inl ((out ++ ([y_7]:List Ac)),(IntKind.i64.wrap (i + 1))))
  else
   some (.inr out)
noncomputable def Fh (list:List AA) (faults:List AJ):Option ((List Ac) × Int) :=
 (Fw list faults).bind fun y_1 =>
 if (!(y_1 == 0)) then
  some (([]:List Ac),y_1)
 else
  (Fe list faults).bind fun y_3 =>
  (AL (DN y_3.1 y_3.2.1 y_3.2.2) (([]:List Ac),0)).bind fun y_9 =>
  some (y_9,0)
noncomputable def Cu (f:Ac) (g:Ac):Option Bool :=
 some (decide ((IntKind.i64.wrap (f.Num * g.Den)) < (IntKind.i64.wrap (g.Num * f.Den))))
noncomputable def Bu (names:List (List UInt8)) (t26:List Ac) (t27:Int):((List UInt8) × Ac × Int) → Option (((List UInt8) × Ac × Int) ⊕ ((List UInt8) × Ac))
 | (worst,most,t28) =>
  if (decide (t28 < t27)) then
   ck (BA t28 t26.length) <|
   (Cu most (t26.getD t28.toNat default)).bind fun y_6 =>
   if y_6 then
    ck (BA t28 names.length) <|
    some (.inl ((names.getD t28.toNat default),(t26.getD t28.toNat default),(IntKind.i64.wrap (t28 + 1))))
   else
    some (.inl (worst,most,(IntKind.i64.wrap (t28 + 1))))
  else
   some (.inr (worst,most))
noncomputable def Ec (list:List AA) (faults:List AJ):Option ((List UInt8) × Int) :=
 (GD list faults).bind fun y_1 =>
 if (!(y_1 == 0)) then
  some (([]:List UInt8),y_1)
 else
  (ER list faults).bind fun y_3 =>
  (AL (Bu y_3.1 y_3.2 (y_3.2.length:Int)) (([]:List UInt8),(Ac.mk 0 1),0)).bind fun y_9 =>
  if (y_9.2.Num == 0) then
   some (([]:List UInt8),3)
  else
   some (y_9.1,0)
noncomputable def Bt (names:List (List UInt8)) (bad:List Int) (all:List Int):(Int × Int) → Option ((Int × Int) ⊕ Int)
 | (best,i) =>
  if (decide (i < (names.length:Int))) then
   ck (BA i bad.length) <|
   ck (!((decide (0 < (bad.getD i.toNat default))) && !(decide (best < 0))) || BA best all.length) <|
   ck (!((decide (0 < (bad.getD i.toNat default))) && !(decide (best < 0))) || BA best bad.length) <|
   ck (!((decide (0 < (bad.getD i.toNat default))) && !(decide (best < 0))) || BA i all.length) <|
   if ((decide (0 < (bad.getD i.toNat default))) && ((decide (best < 0)) || (decide ((IntKind.i64.wrap ((bad.getD best.toNat default) * (all.getD i.toNat default))) < (IntKind.i64.wrap ((bad.getD i.toNat default) * (all.getD best.toNat default))))))) then
    some (.inl (i,(IntKind.i64.wrap (i + 1))))
   else
    some (.inl (best,(IntKind.i64.wrap (i + 1))))
  else
   some (.inr best)
noncomputable def EU (list:List AA) (faults:List AJ):Option ((List UInt8) × Int) :=
 (Fw list faults).bind fun y_1 =>
 if (!(y_1 == 0)) then
  some (([]:List UInt8),y_1)
 else
  (Fe list faults).bind fun y_3 =>
  (AL (Bt y_3.1 y_3.2.1 y_3.2.2) ((-1),0)).bind fun y_10 =>
  if (decide (y_10 < 0)) then
   some (([]:List UInt8),3)
  else
   ck (BA y_10 y_3.1.length) <|
   some ((y_3.1.getD y_10.toNat default),0)
noncomputable def EZ (code:List UInt8):Option Int :=
 (Ey code).bind fun y_1 =>
 (AI y_1 8).bind fun y_2 =>
 some (IntKind.i64.wrap (y_2.1 - 1))
noncomputable def Da (code:List UInt8):Option AJ :=
 (Ey code).bind fun y_1 =>
 (AI y_1 100).bind fun y_2 =>
 (AI y_2.2 5).bind fun y_3 =>
 (AI y_3.2 10).bind fun y_4 =>
 if (y_4.1 == 0) then
  (BH y_4.2 ([(-1),99,100]:List Int)).bind fun y_6 =>
  some (AJ.mk y_6.1 (IntKind.i64.wrap (1 + y_3.1)))
 else
  if (y_4.1 == 1) then
   (BH y_4.2 ([0,6]:List Int)).bind fun y_8 =>
   some (AJ.mk y_2.1 y_8.1)
  else
   some (AJ.mk y_2.1 (IntKind.i64.wrap (1 + y_3.1)))
noncomputable def Gd (i:Int) (base:Int):Option (List UInt8) :=
 (yB i base).bind fun y_1 =>
 some y_1
noncomputable def Ip (n:Int):Option (List UInt8) :=
 (Gd n 10).bind fun y_1 =>
 some y_1
noncomputable def CT :Option (List (List UInt8)) :=
 some ([([115,116,97,114]:List UInt8),([111,98,115,101,114,118,101,114]:List UInt8),([98,114,105,103,104,116]:List UInt8),([102,97,105,110,116]:List UInt8),([116,119,105,110]:List UInt8)]:List (List UInt8))
noncomputable def CR (kind:Int):Option (List UInt8) :=
 (Ee kind 1 5).bind fun y_1 =>
 if (!y_1) then
  some ([]:List UInt8)
 else
  (CT).bind fun y_3 =>
  ck (BA (IntKind.i64.wrap (kind - 1)) y_3.length) <|
  some (y_3.getD (IntKind.i64.wrap (kind - 1)).toNat default)
noncomputable def Cn (x:AJ):Option (List UInt8) :=
 (HJ ([x]:List AJ) 100).bind fun y_1 =>
 if (!y_1) then
  some ([]:List UInt8)
 else
  (Ip x.Index).bind fun y_3 =>
  ck (IJ y_3.length ([32]:List UInt8).length) <|
  (CR x.Kind).bind fun y_5 =>
  ck (IJ (y_3 ++ ([32]:List UInt8)).length y_5.length) <|
  some ((y_3 ++ ([32]:List UInt8)) ++ y_5)
noncomputable def Bg (s_:List (List UInt8)) (v:List UInt8) (t7:Int):Int → Option (Int ⊕ (Unit ⊕ Int))
 | t8 =>
  if (decide (t8 < t7)) then
   ck (BA t8 s_.length) <|
   if (v == (s_.getD t8.toNat default)) then
    some (.inr (.inr t8))
   else
    some (.inl (IntKind.i64.wrap (t8 + 1)))
  else
   some (.inr (.inl ()))
noncomputable def CQ (s_:List (List UInt8)) (v:List UInt8):Option Int :=
 (AL (Bg s_ v (s_.length:Int)) 0).bind fun y_4 =>
 match y_4 with
 | .inl y_4a =>
  some (-1)
 | .inr y_4b =>
  some y_4b
noncomputable def Dm (s_:List UInt8):Option (AJ × Bool) :=
 (tn s_ ([32]:List UInt8)).bind fun y_1 =>
 (Xs y_1.1).bind fun y_2 =>
 (CT).bind fun y_3 =>
 (CQ y_3 y_1.2.1).bind fun y_4 =>
 ck (!(!((!y_2.2) || ((IntKind.i64.wrap (y_4 + 1)) == 0))) || (Cn (AJ.mk y_2.1 (IntKind.i64.wrap (y_4 + 1)))).isSome) <|
 if (((!y_2.2) || ((IntKind.i64.wrap (y_4 + 1)) == 0)) || (!(((Cn (AJ.mk y_2.1 (IntKind.i64.wrap (y_4 + 1)))).getD default) == s_))) then
  some ((AJ.mk 0 0),false)
 else
  some ((AJ.mk y_2.1 (IntKind.i64.wrap (y_4 + 1))),true)
noncomputable def Cl (n:Int):((List UInt8) × Int) → Option (((List UInt8) × Int) ⊕ (List UInt8))
 | (out,k) =>
  if (!(k == 0)) then
   ck (nz 10) <|
   if (decide ((k.tmod 10) < 0)) then
    ck (BW (([(MY (IntKind.u8.wrap (IntKind.i64.wrap (48 + (IntKind.i64.wrap (0 - (k.tmod 10)))))))]:List UInt8).length + out.length) 1) <|
    some (.inl ((([(MY (IntKind.u8.wrap (IntKind.i64.wrap (48 + (IntKind.i64.wrap (0 - (k.tmod 10)))))))]:List UInt8) ++ out),(IntKind.i64.wrap (k.tdiv 10))))
   else
    ck (BW (([(MY (IntKind.u8.wrap (IntKind.i64.wrap (48 + (k.tmod 10)))))]:List UInt8).length + out.length) 1) <|
    some (.inl ((([(MY (IntKind.u8.wrap (IntKind.i64.wrap (48 + (k.tmod 10)))))]:List UInt8) ++ out),(IntKind.i64.wrap (k.tdiv 10))))
  else
   some (.inr out)
noncomputable def EL (n:Int):Option (List UInt8) :=
 (AL (Cl n) (([]:List UInt8),n)).bind fun y_6 =>
 if ((y_6.length:Int) == 0) then
  some ([48]:List UInt8)
 else
  if (decide (n < 0)) then
   ck (IJ ([45]:List UInt8).length y_6.length) <|
   some (([45]:List UInt8) ++ y_6)
  else
   some y_6
noncomputable def EK :Option (List (List UInt8)) :=
 some ([([115,116,97,114]:List UInt8),([111,98,115,101,114,118,101,114]:List UInt8),([98,114,105,103,104,116]:List UInt8),([102,97,105,110,116]:List UInt8),([116,119,105,110]:List UInt8)]:List (List UInt8))
noncomputable def Jr (x:AJ):Option (List UInt8) :=
 (EL x.Index).bind fun y_1 =>
 ck (IJ y_1.length ([32]:List UInt8).length) <|
 (EK).bind fun y_3 =>
 ck (BA (IntKind.i64.wrap (x.Kind - 1)) y_3.length) <|
 ck (IJ (y_1 ++ ([32]:List UInt8)).length (y_3.getD (IntKind.i64.wrap (x.Kind - 1)).toNat default).length) <|
 some ((y_1 ++ ([32]:List UInt8)) ++ (y_3.getD (IntKind.i64.wrap (x.Kind - 1)).toNat default))
noncomputable def EW (x:AJ):Option (List UInt8) :=
 (CH ([x]:List AJ) 100).bind fun y_1 =>
 if (!y_1) then
  some ([]:List UInt8)
 else
  (Jr x).bind fun y_3 =>
  some y_3
noncomputable def He (s_:AQ) (t:List UInt8):Option ((List UInt8) × AQ) :=
 (AI s_ 5).bind fun y_1 =>
 if (y_1.1 == 0) then
  (AI y_1.2 (IntKind.i64.wrap ((t.length:Int) + 1))).bind fun y_3 =>
  ck (FI 0 y_3.1 t.length) <|
  (BO y_3.2 ([([32]:List UInt8),([48]:List UInt8),([45]:List UInt8),([120]:List UInt8),([49]:List UInt8),([57]:List UInt8),([46]:List UInt8)]:List (List UInt8))).bind fun y_5 =>
  ck (IJ (cut t 0 y_3.1).length y_5.1.length) <|
  ck (FI y_3.1 (t.length:Int) t.length) <|
  ck (IJ ((cut t 0 y_3.1) ++ y_5.1).length (cut t y_3.1 (t.length:Int)).length) <|
  some ((((cut t 0 y_3.1) ++ y_5.1) ++ (cut t y_3.1 (t.length:Int))),y_5.2)
 else
  if (y_1.1 == 1) then
   if (!(t == ([]:List UInt8))) then
    (AI y_1.2 (t.length:Int)).bind fun y_11 =>
    ck (FI 0 y_11.1 t.length) <|
    ck (FI (IntKind.i64.wrap (y_11.1 + 1)) (t.length:Int) t.length) <|
    ck (IJ (cut t 0 y_11.1).length (cut t (IntKind.i64.wrap (y_11.1 + 1)) (t.length:Int)).length) <|
    some (((cut t 0 y_11.1) ++ (cut t (IntKind.i64.wrap (y_11.1 + 1)) (t.length:Int))),y_11.2)
   else
    some (t,y_1.2)
  else
   some (t,y_1.2)
noncomputable def EY (code:List UInt8):Option (List UInt8) :=
 (Ey code).bind fun y_1 =>
 (Da code).bind fun y_2 =>
 (EW y_2).bind fun y_3 =>
 (Ag y_1 3).bind fun y_4 =>
 if y_4.1 then
  (He y_4.2 y_3).bind fun y_6 =>
  some y_6.1
 else
  some y_3
noncomputable def DZ (s_:List UInt8) (by_:UInt8):((List (List UInt8)) × Int × Int) → Option (((List (List UInt8)) × Int × Int) ⊕ ((List (List UInt8)) × Int))
 | (out,from_,i) =>
  if (decide (i < (s_.length:Int))) then
   ck (BA i s_.length) <|
   if (((s_.getD i.toNat 0).toNat:Int) == (by_.toNat:Int)) then
    ck (FI from_ i s_.length) <|
    ck (BW (out.length + ([(cut s_ from_ i)]:List (List UInt8)).length) 16) <|
    some (.inl ((out ++ ([(cut s_ from_ i)]:List (List UInt8))),(IntKind.i64.wrap (i + 1)),(IntKind.i64.wrap (i + 1))))
   else
    some (.inl (out,from_,(IntKind.i64.wrap (i + 1))))
  else
   some (.inr (out,from_))
noncomputable def Hf (s_:List UInt8) (by_:UInt8):Option (List (List UInt8)) :=
 (AL (DZ s_ by_) (([]:List (List UInt8)),0,0)).bind fun y_6 =>
 ck (FI y_6.2 (s_.length:Int) s_.length) <|
 ck (BW (y_6.1.length + ([(cut s_ y_6.2 (s_.length:Int))]:List (List UInt8)).length) 16) <|
 some (y_6.1 ++ ([(cut s_ y_6.2 (s_.length:Int))]:List (List UInt8)))
noncomputable def Ce (s_:List UInt8) (t:List UInt8):(Int × Int) → Option ((Int × Int) ⊕ (Int ⊕ (Int × Bool)))
 | (n,i) =>
  if (decide (i < (t.length:Int))) then
   ck (BA i t.length) <|
   (De (t.getD i.toNat 0)).bind fun y_7 =>
   if (!y_7) then
    some (.inr (.inr (0,false)))
   else
    some (.inl ((IntKind.i64.wrap ((IntKind.i64.wrap (10 * n)) + (IntKind.i64.wrap (IntKind.u8.wrap (((t.getD i.toNat 0).toNat:Int) - 48))))),(IntKind.i64.wrap (i + 1))))
  else
   some (.inr (.inl n))
noncomputable def Ge (s_:List UInt8) (t:List UInt8):(Int × Int) → Option ((Int × Int) ⊕ (Int ⊕ (Int × Bool)))
 | (n,i) =>
  if (decide (i < (t.length:Int))) then
   ck (BA i t.length) <|
   (De (t.getD i.toNat 0)).bind fun y_18 =>
   if (!y_18) then
    some (.inr (.inr (0,false)))
   else
    some (.inl ((IntKind.i64.wrap ((IntKind.i64.wrap (10 * n)) + (IntKind.i64.wrap (IntKind.u8.wrap (((t.getD i.toNat 0).toNat:Int) - 48))))),(IntKind.i64.wrap (i + 1))))
  else
   some (.inr (.inl n))
noncomputable def Gm (s_:List UInt8):Option (Int × Bool) :=
 ck (!(!(s_ == ([]:List UInt8))) || BA 0 s_.length) <|
 if ((!(s_ == ([]:List UInt8))) && (((s_.getD 0 0).toNat:Int) == 45)) then
  ck (FI 1 (s_.length:Int) s_.length) <|
  if ((decide (((cut s_ 1 (s_.length:Int)).length:Int) < 1)) || (decide (18 < ((cut s_ 1 (s_.length:Int)).length:Int)))) then
   some (0,false)
  else
   (AL (Ce s_ (cut s_ 1 (s_.length:Int))) (0,0)).bind fun y_9 =>
   match y_9 with
   | .inl y_9a =>
    if (decide (((cut s_ 1 (s_.length:Int)).length:Int) < (s_.length:Int))) then
     (EL (IntKind.i64.wrap (0 - y_9a))).bind fun y_11 =>
     if (!(y_11 == s_)) then
      some (0,false)
     else
      some ((IntKind.i64.wrap (0 - y_9a)),true)
    else
     (EL y_9a).bind fun y_13 =>
     if (!(y_13 == s_)) then
      some (0,false)
     else
      some (y_9a,true)
   | .inr y_9b =>
    some (y_9b.1,y_9b.2)
 else
  if ((decide ((s_.length:Int) < 1)) || (decide (18 < (s_.length:Int)))) then
   some (0,false)
  else
   (AL (Ge s_ s_) (0,0)).bind fun y_20 =>
   match y_20 with
   | .inl y_20a =>
    if (decide ((s_.length:Int) < (s_.length:Int))) then
     (EL (IntKind.i64.wrap (0 - y_20a))).bind fun y_22 =>
     if (!(y_22 == s_)) then
      some (0,false)
     else
      some ((IntKind.i64.wrap (0 - y_20a)),true)
    else
     (EL y_20a).bind fun y_24 =>
     if (!(y_24 == s_)) then
      some (0,false)
     else
      some (y_20a,true)
   | .inr y_20b =>
    some (y_20b.1,y_20b.2)
noncomputable def EV (s_:List UInt8):Option (AJ × Bool) :=
 (Hf s_ (32:UInt8)).bind fun y_1 =>
 if (!((y_1.length:Int) == 2)) then
  some ((AJ.mk 0 0),false)
 else
  ck (BA 0 y_1.length) <|
  (Gm (y_1.getD 0 default)).bind fun y_4 =>
  (EK).bind fun y_5 =>
  ck (BA 1 y_1.length) <|
  (Ew y_5 (y_1.getD 1 default)).bind fun y_7 =>
  ck (!(!(!y_4.2)) || (CH ([(AJ.mk y_4.1 (IntKind.i64.wrap (y_7 + 1)))]:List AJ) 100).isSome) <|
  if ((!y_4.2) || (!((CH ([(AJ.mk y_4.1 (IntKind.i64.wrap (y_7 + 1)))]:List AJ) 100).getD default))) then
   some ((AJ.mk 0 0),false)
  else
   some ((AJ.mk y_4.1 (IntKind.i64.wrap (y_7 + 1))),true)
noncomputable def Cj (a:List AA) (b:List AA):Int → Option (Int ⊕ (Unit ⊕ Bool))
 | i =>
  if (decide (i < (a.length:Int))) then
   ck (BA i a.length) <|
   ck (BA i b.length) <|
   if (!((((a.getD i.toNat default).Time) == ((b.getD i.toNat default).Time)) && ((((a.getD i.toNat default).Star) == ((b.getD i.toNat default).Star)) && ((((a.getD i.toNat default).Observer) == ((b.getD i.toNat default).Observer)) && ((((a.getD i.toNat default).Mag) == ((b.getD i.toNat default).Mag)) && (((a.getD i.toNat default).Fainter) == ((b.getD i.toNat default).Fainter))))))) then
    some (.inr (.inr false))
   else
    some (.inl (IntKind.i64.wrap (i + 1)))
  else
   some (.inr (.inl ()))
noncomputable def Bl (a:List AA) (b:List AA):Option Bool :=
 if (!((a.length:Int) == (b.length:Int))) then
  some false
 else
  (AL (Cj a b) 0).bind fun y_6 =>
  match y_6 with
  | .inl y_6a =>
   some true
  | .inr y_6b =>
   some y_6b
noncomputable def DP (a:List Ac) (b:List Ac):Int → Option (Int ⊕ (Unit ⊕ Bool))
 | i =>
  if (decide (i < (a.length:Int))) then
   ck (BA i a.length) <|
   ck (BA i b.length) <|
   if (!((((a.getD i.toNat default).Num) == ((b.getD i.toNat default).Num)) && (((a.getD i.toNat default).Den) == ((b.getD i.toNat default).Den)))) then
    some (.inr (.inr false))
   else
    some (.inl (IntKind.i64.wrap (i + 1)))
  else
   some (.inr (.inl ()))
noncomputable def CX (a:List Ac) (b:List Ac):Option Bool :=
 if (!((a.length:Int) == (b.length:Int))) then
  some false
 else
  (AL (DP a b) 0).bind fun y_6 =>
  match y_6 with
  | .inl y_6a =>
   some true
  | .inr y_6b =>
   some y_6b
noncomputable def EX (kind:Int):Option (List UInt8) :=
 (Fv kind).bind fun y_1 =>
 if (!y_1) then
  some ([]:List UInt8)
 else
  (EK).bind fun y_3 =>
  ck (BA (IntKind.i64.wrap (kind - 1)) y_3.length) <|
  some (y_3.getD (IntKind.i64.wrap (kind - 1)).toNat default)
noncomputable def EQ (list:List AA) (stars:List Star) (observers:List Observer) (margin:Int) (faults:List AJ) (bad:Int) (model:List AJ):Int → Option (Int ⊕ (Unit ⊕ Bool))
 | i =>
  if (decide (i < (faults.length:Int))) then
   ck (BA i faults.length) <|
   ck (BA i model.length) <|
   if (!((((faults.getD i.toNat default).Index) == ((model.getD i.toNat default).Index)) && (((faults.getD i.toNat default).Kind) == ((model.getD i.toNat default).Kind)))) then
    some (.inr (.inr false))
   else
    some (.inl (IntKind.i64.wrap (i + 1)))
  else
   some (.inr (.inl ()))
noncomputable def JW (code:List UInt8):Option Bool :=
 (Lx code).bind fun y_1 =>
 if y_1 then
  some true
 else
  (Cy code).bind fun y_3 =>
  (Bj y_3.1 y_3.2.1 y_3.2.2.1 y_3.2.2.2).bind fun y_4 =>
  (DO y_3.1 y_3.2.1 y_3.2.2.1 y_3.2.2.2).bind fun y_5 =>
  (Cx code).bind fun y_6 =>
  (CM y_6.1 y_6.2).bind fun y_7 =>
  (EA y_6.1 y_6.2).bind fun y_8 =>
  (Fl y_6.1 y_6.2).bind fun y_9 =>
  (Fh y_6.1 y_6.2).bind fun y_10 =>
  (Ec y_6.1 y_6.2).bind fun y_11 =>
  (EU y_6.1 y_6.2).bind fun y_12 =>
  (EZ code).bind fun y_13 =>
  (Da code).bind fun y_14 =>
  (Cn y_14).bind fun y_15 =>
  (Dm y_15).bind fun y_16 =>
  (EY code).bind fun y_17 =>
  (Dm y_17).bind fun y_18 =>
  (EV y_17).bind fun y_19 =>
  ck (!(!(((!(y_4.2 == y_5.2)) || (!((y_4.1.length:Int) == (y_5.1.length:Int)))) || (!(y_7.2 == y_8.2)))) || (Bl y_7.1 y_8.1).isSome) <|
  ck (!(!(((((!(y_4.2 == y_5.2)) || (!((y_4.1.length:Int) == (y_5.1.length:Int)))) || (!(y_7.2 == y_8.2))) || (!((Bl y_7.1 y_8.1).getD default))) || (!(y_9.2 == y_10.2)))) || (CX y_9.1 y_10.1).isSome) <|
  ck (!(!((((((((!(y_4.2 == y_5.2)) || (!((y_4.1.length:Int) == (y_5.1.length:Int)))) || (!(y_7.2 == y_8.2))) || (!((Bl y_7.1 y_8.1).getD default))) || (!(y_9.2 == y_10.2))) || (!((CX y_9.1 y_10.1).getD default))) || (!(y_11.2 == y_12.2))) || (!(y_11.1 == y_12.1)))) || (CR y_13).isSome) <|
  ck (!(!((((((((!(y_4.2 == y_5.2)) || (!((y_4.1.length:Int) == (y_5.1.length:Int)))) || (!(y_7.2 == y_8.2))) || (!((Bl y_7.1 y_8.1).getD default))) || (!(y_9.2 == y_10.2))) || (!((CX y_9.1 y_10.1).getD default))) || (!(y_11.2 == y_12.2))) || (!(y_11.1 == y_12.1)))) || (EX y_13).isSome) <|
  ck (!(!(((((((((!(y_4.2 == y_5.2)) || (!((y_4.1.length:Int) == (y_5.1.length:Int)))) || (!(y_7.2 == y_8.2))) || (!((Bl y_7.1 y_8.1).getD default))) || (!(y_9.2 == y_10.2))) || (!((CX y_9.1 y_10.1).getD default))) || (!(y_11.2 == y_12.2))) || (!(y_11.1 == y_12.1))) || (!(((CR y_13).getD default) == ((EX y_13).getD default))))) || (EW y_14).isSome) <|
  if ((((((((((((((!(y_4.2 == y_5.2)) || (!((y_4.1.length:Int) == (y_5.1.length:Int)))) || (!(y_7.2 == y_8.2))) || (!((Bl y_7.1 y_8.1).getD default))) || (!(y_9.2 == y_10.2))) || (!((CX y_9.1 y_10.1).getD default))) || (!(y_11.2 == y_12.2))) || (!(y_11.1 == y_12.1))) || (!(((CR y_13).getD default) == ((EX y_13).getD default)))) || (!(y_15 == ((EW y_14).getD default)))) || (!(y_16.2 == (!(y_15 == ([]:List UInt8)))))) || (y_16.2 && (!((y_16.1.Index == y_14.Index) && (y_16.1.Kind == y_14.Kind))))) || (!(y_18.2 == y_19.2))) || (!((y_18.1.Index == y_19.1.Index) && (y_18.1.Kind == y_19.1.Kind)))) then
   some false
  else
   (AL (EQ y_3.1 y_3.2.1 y_3.2.2.1 y_3.2.2.2 y_4.1 y_4.2 y_5.1) 0).bind fun y_30 =>
   match y_30 with
   | .inl y_30a =>
    if (!(y_4.2 == 0)) then
     some true
    else
     (CM y_3.1 y_5.1).bind fun y_32 =>
     (Bj y_32.1 y_3.2.1 y_3.2.2.1 y_3.2.2.2).bind fun y_33 =>
     some (((y_32.2 == 0) && (y_33.2 == 0)) && ((y_33.1.length:Int) == 0))
   | .inr y_30b =>
    some y_30b
end Go.Proofs.YtfaenphcgfocnaaGreatDoor
