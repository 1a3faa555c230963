/- Rules by which the interpreter is run inside a proof. No condition. -/
import Derived.Test.YtbobhejdijcofaaGreatDoorEngA
namespace Go.Proofs.YtbobhejdijcofaaGreatDoor
open Go

theorem thenR_ite {c : Prop} [Decidable c] (x y : Res) (k : St → Res) : thenR k (if c then x else y) = if c then thenR k x else thenR k y := by split <;> rfl
theorem inBlk_ite {c : Prop} [Decidable c] (id : Nat) (x y : Res) : inBlk id (if c then x else y) = if c then inBlk id x else inBlk id y := by split <;> rfl
theorem maskX_ite {c : Prop} [Decidable c] (a b d : List Bool) (x y : Res) : maskX a b d (if c then x else y) = if c then maskX a b d x else maskX a b d y := by split <;> rfl
theorem maskN_ite {c : Prop} [Decidable c] (m : List Bool) (x y : Res) : maskN m (if c then x else y) = if c then maskN m x else maskN m y := by split <;> rfl
theorem finish_ite {c : Prop} [Decidable c] (fn : AFn) (m : List Md) (a : List AV) (x y : Res) : finish fn m a (if c then x else y) = if c then finish fn m a x else finish fn m a y := by split <;> rfl
theorem chkR_ite {c : Prop} [Decidable c] (b : Bool) (x y : Rs) : chkR b (if c then x else y) = if c then chkR b x else chkR b y := by split <;> rfl
theorem chkR_true (x : Rs) : chkR true x = x := rfl
theorem imp1 (a b : Bool) : (!(a && b) || a) = true := by cases a <;> cases b <;> rfl
theorem imp2 (a : Bool) : (!a || a) = true := by cases a <;> rfl
theorem imp3 (a b : Bool) : (!(a && b) || b) = true := by cases a <;> cases b <;> rfl
theorem imp4 (a b c : Bool) : (!(a && b && c) || a) = true := by cases a <;> cases b <;> cases c <;> rfl
theorem imp5 (a b c : Bool) : (!(a && (b && c)) || b) = true := by cases a <;> cases b <;> cases c <;> rfl
theorem beqb_true (a : Bool) : (a == true) = a := by cases a <;> rfl
theorem beqb_false (a : Bool) : (a == false) = !a := by cases a <;> rfl
theorem cond_f (a b : Bool) : (bif a then b else false) = (a && b) := by cases a <;> rfl
theorem cond_t (a b : Bool) : (bif a then true else b) = (a || b) := by cases a <;> rfl
theorem sound_cond_true {α : Type} (a b : α) : (bif true then a else b) = a := rfl
theorem sound_cond_false {α : Type} (a b : α) : (bif false then a else b) = b := rfl
attribute [go_sem] thenR_ite inBlk_ite maskX_ite maskN_ite finish_ite chkR_ite chkR_true imp1 imp2 imp3 imp4 imp5 beqb_true beqb_false cond_f cond_t sound_cond_true sound_cond_false
attribute [go_sem] tabs Rs.bad AV.names AV.kill AV.atoms bad just when also byteAV keyOf strOf cut boxA frzM clr clear withOb putM fail apart killAll unfl callBack doCall doCallG storeEl pureM flatG offA safeG safeM putG insW doIns drop keepB canKey canonK canon keepS pickIs slots andOk anyS testR paramKey initSt frzQ givenOk fin1 fits chkR runF
attribute [go_sem] AV.cells.eq_1 AV.cells.eq_2 AV.cells.eq_3 AV.cells.eq_4 AV.cells.eq_5 AV.cells.eq_6 AV.cells.eq_7 AV.cells.eq_8 AV.cells.eq_9 AV.cells.eq_10 AV.cells.eq_11 AV.cells.eq_12 AV.cells.eq_13 AV.cells.eq_14 AV.cells.eq_15 AV.cells.eq_16
attribute [go_sem] AV.isAgg.eq_1 AV.isAgg.eq_2
attribute [go_sem] rd.eq_1 rd.eq_2 rd.eq_3
attribute [go_sem] obGet.eq_1 obGet.eq_2
attribute [go_sem] obSet.eq_1 obSet.eq_2
attribute [go_sem] obDel.eq_1 obDel.eq_2
attribute [go_sem] AV.key1.eq_1 AV.key1.eq_2 AV.key1.eq_3 AV.key1.eq_4 AV.key1.eq_5 AV.key1.eq_6 AV.key1.eq_7 AV.key1.eq_8 AV.key1.eq_9 AV.key1.eq_10 AV.key1.eq_11 AV.key1.eq_12 AV.key1.eq_13 AV.key1.eq_14 AV.key1.eq_15 AV.key1.eq_16
attribute [go_sem] AV.keys.eq_1 AV.keys.eq_2 AV.keys.eq_3 AV.keys.eq_4 AV.keys.eq_5 AV.keys.eq_6 AV.keys.eq_7 AV.keys.eq_8 AV.keys.eq_9 AV.keys.eq_10 AV.keys.eq_11 AV.keys.eq_12 AV.keys.eq_13 AV.keys.eq_14 AV.keys.eq_15 AV.keys.eq_16
attribute [go_sem] AV.fz1.eq_1 AV.fz1.eq_2 AV.fz1.eq_3 AV.fz1.eq_4 AV.fz1.eq_5 AV.fz1.eq_6 AV.fz1.eq_7 AV.fz1.eq_8 AV.fz1.eq_9 AV.fz1.eq_10 AV.fz1.eq_11 AV.fz1.eq_12 AV.fz1.eq_13 AV.fz1.eq_14 AV.fz1.eq_15 AV.fz1.eq_16
attribute [go_sem] AV.fz.eq_1 AV.fz.eq_2 AV.fz.eq_3 AV.fz.eq_4 AV.fz.eq_5 AV.fz.eq_6 AV.fz.eq_7 AV.fz.eq_8 AV.fz.eq_9 AV.fz.eq_10 AV.fz.eq_11 AV.fz.eq_12 AV.fz.eq_13 AV.fz.eq_14 AV.fz.eq_15 AV.fz.eq_16
attribute [go_sem] freezeH.eq_1 freezeH.eq_2
attribute [go_sem] freezeAll.eq_1 freezeAll.eq_2
attribute [go_sem] slOf.eq_1 slOf.eq_2
attribute [go_sem] ptrOf.eq_1 ptrOf.eq_2
attribute [go_sem] AV.dv1.eq_1 AV.dv1.eq_2 AV.dv1.eq_3 AV.dv1.eq_4 AV.dv1.eq_5 AV.dv1.eq_6 AV.dv1.eq_7 AV.dv1.eq_8 AV.dv1.eq_9 AV.dv1.eq_10 AV.dv1.eq_11 AV.dv1.eq_12 AV.dv1.eq_13 AV.dv1.eq_14 AV.dv1.eq_15 AV.dv1.eq_16
attribute [go_sem] AV.dv.eq_1 AV.dv.eq_2 AV.dv.eq_3 AV.dv.eq_4 AV.dv.eq_5 AV.dv.eq_6 AV.dv.eq_7 AV.dv.eq_8 AV.dv.eq_9 AV.dv.eq_10 AV.dv.eq_11 AV.dv.eq_12 AV.dv.eq_13 AV.dv.eq_14 AV.dv.eq_15 AV.dv.eq_16
attribute [go_sem] AV.atom.eq_1 AV.atom.eq_2 AV.atom.eq_3 AV.atom.eq_4 AV.atom.eq_5 AV.atom.eq_6 AV.atom.eq_7 AV.atom.eq_8 AV.atom.eq_9 AV.atom.eq_10 AV.atom.eq_11 AV.atom.eq_12 AV.atom.eq_13 AV.atom.eq_14 AV.atom.eq_15 AV.atom.eq_16
attribute [go_sem] AV.simple.eq_1 AV.simple.eq_2 AV.simple.eq_3 AV.simple.eq_4 AV.simple.eq_5 AV.simple.eq_6 AV.simple.eq_7 AV.simple.eq_8 AV.simple.eq_9 AV.simple.eq_10 AV.simple.eq_11 AV.simple.eq_12 AV.simple.eq_13 AV.simple.eq_14 AV.simple.eq_15 AV.simple.eq_16
attribute [go_sem] part.eq_1 part.eq_2
attribute [go_sem] putCells.eq_1 putCells.eq_2
attribute [go_sem] AV.like.eq_1 AV.like.eq_2 AV.like.eq_3
attribute [go_sem] unopt.eq_1 unopt.eq_2 unopt.eq_3 unopt.eq_4 unopt.eq_5 unopt.eq_6 unopt.eq_7 unopt.eq_8 unopt.eq_9 unopt.eq_10 unopt.eq_11 unopt.eq_12 unopt.eq_13 unopt.eq_14 unopt.eq_15 unopt.eq_16
attribute [go_sem] optOk.eq_1 optOk.eq_2 optOk.eq_3 optOk.eq_4 optOk.eq_5 optOk.eq_6 optOk.eq_7 optOk.eq_8 optOk.eq_9 optOk.eq_10 optOk.eq_11 optOk.eq_12 optOk.eq_13 optOk.eq_14 optOk.eq_15 optOk.eq_16
attribute [go_sem] mixA.eq_1 mixA.eq_2 mixA.eq_3 mixA.eq_4
attribute [go_sem] pickM.eq_1 pickM.eq_2
attribute [go_sem] intB.eq_1 intB.eq_2 intB.eq_3 intB.eq_4 intB.eq_5 intB.eq_6 intB.eq_7 intB.eq_8 intB.eq_9 intB.eq_10 intB.eq_11 intB.eq_12 intB.eq_13 intB.eq_14 intB.eq_15 intB.eq_16 intB.eq_17
attribute [go_sem] strB.eq_1 strB.eq_2 strB.eq_3 strB.eq_4 strB.eq_5 strB.eq_6 strB.eq_7 strB.eq_8
attribute [go_sem] boolB.eq_1 boolB.eq_2 boolB.eq_3
attribute [go_sem] shB.eq_1 shB.eq_2 shB.eq_3
attribute [go_sem] binA.eq_1 binA.eq_2 binA.eq_3 binA.eq_4
attribute [go_sem] eq1.eq_1 eq1.eq_2 eq1.eq_3 eq1.eq_4
attribute [go_sem] eq1Ok.eq_1 eq1Ok.eq_2 eq1Ok.eq_3 eq1Ok.eq_4
attribute [go_sem] eqCells.eq_1 eqCells.eq_2
attribute [go_sem] eqCellsOk.eq_1 eqCellsOk.eq_2 eqCellsOk.eq_3
attribute [go_sem] cmpAgg.eq_1 cmpAgg.eq_2
attribute [go_sem] unA.eq_1 unA.eq_2 unA.eq_3 unA.eq_4 unA.eq_5
attribute [go_sem] byteOf.eq_1 byteOf.eq_2
attribute [go_sem] isByte.eq_1 isByte.eq_2
attribute [go_sem] idx.eq_1 idx.eq_2
attribute [go_sem] loadH.eq_1 loadH.eq_2
attribute [go_sem] loadA.eq_1 loadA.eq_2 loadA.eq_3
attribute [go_sem] nilckA.eq_1 nilckA.eq_2 nilckA.eq_3 nilckA.eq_4
attribute [go_sem] convA.eq_1 convA.eq_2
attribute [go_sem] s2bA.eq_1 s2bA.eq_2
attribute [go_sem] strHm.eq_1 strHm.eq_2
attribute [go_sem] b2sA.eq_1 b2sA.eq_2 b2sA.eq_3 b2sA.eq_4
attribute [go_sem] lenHm.eq_1 lenHm.eq_2
attribute [go_sem] lenA.eq_1 lenA.eq_2 lenA.eq_3 lenA.eq_4 lenA.eq_5
attribute [go_sem] idxOr.eq_1 idxOr.eq_2
attribute [go_sem] sliceA.eq_1 sliceA.eq_2 sliceA.eq_3 sliceA.eq_4
attribute [go_sem] fldAddrA.eq_1 fldAddrA.eq_2 fldAddrA.eq_3
attribute [go_sem] ixOwn.eq_1 ixOwn.eq_2
attribute [go_sem] ixAddrA.eq_1 ixAddrA.eq_2 ixAddrA.eq_3
attribute [go_sem] ixStrA.eq_1 ixStrA.eq_2
attribute [go_sem] extA.eq_1 extA.eq_2
attribute [go_sem] fillP.eq_1 fillP.eq_2
attribute [go_sem] fillOk.eq_1 fillOk.eq_2
attribute [go_sem] setEls.eq_1 setEls.eq_2
attribute [go_sem] setOk.eq_1 setOk.eq_2
attribute [go_sem] mm2.eq_1 mm2.eq_2
attribute [go_sem] foldMM.eq_1 foldMM.eq_2
attribute [go_sem] kindIs.eq_1 kindIs.eq_2
attribute [go_sem] mmA.eq_1 mmA.eq_2
attribute [go_sem] makeA.eq_1 makeA.eq_2
attribute [go_sem] stillOp.eq_1 stillOp.eq_2 stillOp.eq_3 stillOp.eq_4 stillOp.eq_5 stillOp.eq_6 stillOp.eq_7 stillOp.eq_8 stillOp.eq_9 stillOp.eq_10 stillOp.eq_11 stillOp.eq_12 stillOp.eq_13 stillOp.eq_14 stillOp.eq_15 stillOp.eq_16 stillOp.eq_17 stillOp.eq_18 stillOp.eq_19 stillOp.eq_20 stillOp.eq_21 stillOp.eq_22 stillOp.eq_23 stillOp.eq_24 stillOp.eq_25 stillOp.eq_26 stillOp.eq_27 stillOp.eq_28 stillOp.eq_29 stillOp.eq_30 stillOp.eq_31 stillOp.eq_32 stillOp.eq_33 stillOp.eq_34 stillOp.eq_35 stillOp.eq_36
attribute [go_sem] frzV.eq_1 frzV.eq_2 frzV.eq_3
attribute [go_sem] frzH.eq_1 frzH.eq_2
attribute [go_sem] adoptL.eq_1 adoptL.eq_2 adoptL.eq_3 adoptL.eq_4
attribute [go_sem] adoptB.eq_1 adoptB.eq_2 adoptB.eq_3 adoptB.eq_4
attribute [go_sem] adopt.eq_1 adopt.eq_2 adopt.eq_3 adopt.eq_4 adopt.eq_5 adopt.eq_6 adopt.eq_7 adopt.eq_8 adopt.eq_9 adopt.eq_10 adopt.eq_11 adopt.eq_12 adopt.eq_13 adopt.eq_14 adopt.eq_15 adopt.eq_16
attribute [go_sem] adoptF.eq_1 adoptF.eq_2 adoptF.eq_3
attribute [go_sem] addAll.eq_1 addAll.eq_2
attribute [go_sem] putD.eq_1 putD.eq_2 putD.eq_3 putD.eq_4
attribute [go_sem] clrOb.eq_1 clrOb.eq_2
attribute [go_sem] hasKey.eq_1 hasKey.eq_2
attribute [go_sem] putH.eq_1 putH.eq_2
attribute [go_sem] calleeV.eq_1 calleeV.eq_2
attribute [go_sem] memO.eq_1 memO.eq_2
attribute [go_sem] freshO.eq_1 freshO.eq_2
attribute [go_sem] ioArg.eq_1 ioArg.eq_2 ioArg.eq_3 ioArg.eq_4
attribute [go_sem] isFM.eq_1 isFM.eq_2 isFM.eq_3 isFM.eq_4 isFM.eq_5 isFM.eq_6 isFM.eq_7 isFM.eq_8 isFM.eq_9 isFM.eq_10 isFM.eq_11 isFM.eq_12 isFM.eq_13 isFM.eq_14 isFM.eq_15 isFM.eq_16
attribute [go_sem] isNil.eq_1 isNil.eq_2
attribute [go_sem] shapes.eq_1 shapes.eq_2 shapes.eq_3 shapes.eq_4 shapes.eq_5
attribute [go_sem] handArg.eq_1 handArg.eq_2 handArg.eq_3
attribute [go_sem] handArgs.eq_1 handArgs.eq_2
attribute [go_sem] ioKeys.eq_1 ioKeys.eq_2 ioKeys.eq_3 ioKeys.eq_4
attribute [go_sem] borKeys.eq_1 borKeys.eq_2 borKeys.eq_3 borKeys.eq_4
attribute [go_sem] distinct.eq_1 distinct.eq_2
attribute [go_sem] takeBack.eq_1 takeBack.eq_2 takeBack.eq_3 takeBack.eq_4 takeBack.eq_5 takeBack.eq_6 takeBack.eq_7
attribute [go_sem] callC.eq_1 callC.eq_2
attribute [go_sem] callG.eq_1 callG.eq_2
attribute [go_sem] storeH.eq_1 storeH.eq_2
attribute [go_sem] storeA.eq_1 storeA.eq_2
attribute [go_sem] srcHm.eq_1 srcHm.eq_2
attribute [go_sem] appSrc.eq_1 appSrc.eq_2 appSrc.eq_3 appSrc.eq_4 appSrc.eq_5
attribute [go_sem] appOwn.eq_1 appOwn.eq_2
attribute [go_sem] appA.eq_1 appA.eq_2 appA.eq_3
attribute [go_sem] freezeKeys.eq_1 freezeKeys.eq_2 freezeKeys.eq_3 freezeKeys.eq_4 freezeKeys.eq_5 freezeKeys.eq_6
attribute [go_sem] AV.lone.eq_1 AV.lone.eq_2 AV.lone.eq_3 AV.lone.eq_4 AV.lone.eq_5 AV.lone.eq_6 AV.lone.eq_7 AV.lone.eq_8 AV.lone.eq_9 AV.lone.eq_10 AV.lone.eq_11 AV.lone.eq_12 AV.lone.eq_13 AV.lone.eq_14 AV.lone.eq_15 AV.lone.eq_16
attribute [go_sem] opsOf.eq_1 opsOf.eq_2 opsOf.eq_3 opsOf.eq_4 opsOf.eq_5 opsOf.eq_6 opsOf.eq_7 opsOf.eq_8 opsOf.eq_9 opsOf.eq_10 opsOf.eq_11 opsOf.eq_12 opsOf.eq_13 opsOf.eq_14 opsOf.eq_15 opsOf.eq_16 opsOf.eq_17 opsOf.eq_18 opsOf.eq_19 opsOf.eq_20 opsOf.eq_21 opsOf.eq_22 opsOf.eq_23 opsOf.eq_24 opsOf.eq_25 opsOf.eq_26
attribute [go_sem] canGuard.eq_1 canGuard.eq_2 canGuard.eq_3 canGuard.eq_4 canGuard.eq_5 canGuard.eq_6 canGuard.eq_7 canGuard.eq_8 canGuard.eq_9 canGuard.eq_10 canGuard.eq_11 canGuard.eq_12 canGuard.eq_13 canGuard.eq_14 canGuard.eq_15 canGuard.eq_16 canGuard.eq_17 canGuard.eq_18 canGuard.eq_19 canGuard.eq_20 canGuard.eq_21 canGuard.eq_22 canGuard.eq_23 canGuard.eq_24 canGuard.eq_25
attribute [go_sem] purOp.eq_1 purOp.eq_2 purOp.eq_3
attribute [go_sem] scalA.eq_1 scalA.eq_2 scalA.eq_3 scalA.eq_4 scalA.eq_5 scalA.eq_6 scalA.eq_7 scalA.eq_8 scalA.eq_9 scalA.eq_10 scalA.eq_11 scalA.eq_12 scalA.eq_13 scalA.eq_14 scalA.eq_15 scalA.eq_16
attribute [go_sem] flat0.eq_1 flat0.eq_2 flat0.eq_3 flat0.eq_4 flat0.eq_5 flat0.eq_6 flat0.eq_7 flat0.eq_8 flat0.eq_9
attribute [go_sem] flatSrc.eq_1 flatSrc.eq_2 flatSrc.eq_3
attribute [go_sem] truncH.eq_1 truncH.eq_2
attribute [go_sem] truncA.eq_1 truncA.eq_2
attribute [go_sem] isRead0.eq_1 isRead0.eq_2 isRead0.eq_3 isRead0.eq_4 isRead0.eq_5 isRead0.eq_6 isRead0.eq_7 isRead0.eq_8 isRead0.eq_9 isRead0.eq_10 isRead0.eq_11 isRead0.eq_12 isRead0.eq_13 isRead0.eq_14 isRead0.eq_15 isRead0.eq_16 isRead0.eq_17
attribute [go_sem] purR.eq_1 purR.eq_2 purR.eq_3
attribute [go_sem] safe0.eq_1 safe0.eq_2 safe0.eq_3 safe0.eq_4 safe0.eq_5
attribute [go_sem] safeSrc.eq_1 safeSrc.eq_2 safeSrc.eq_3 safeSrc.eq_4 safeSrc.eq_5
attribute [go_sem] isAny.eq_1 isAny.eq_2 isAny.eq_3 isAny.eq_4 isAny.eq_5 isAny.eq_6 isAny.eq_7 isAny.eq_8 isAny.eq_9 isAny.eq_10 isAny.eq_11 isAny.eq_12 isAny.eq_13 isAny.eq_14 isAny.eq_15 isAny.eq_16
attribute [go_sem] clrObs.eq_1 clrObs.eq_2
attribute [go_sem] doOp.eq_1 doOp.eq_2 doOp.eq_3 doOp.eq_4 doOp.eq_5 doOp.eq_6 doOp.eq_7 doOp.eq_8 doOp.eq_9 doOp.eq_10 doOp.eq_11 doOp.eq_12 doOp.eq_13 doOp.eq_14 doOp.eq_15 doOp.eq_16 doOp.eq_17 doOp.eq_18 doOp.eq_19 doOp.eq_20 doOp.eq_21 doOp.eq_22 doOp.eq_23 doOp.eq_24 doOp.eq_25 doOp.eq_26 doOp.eq_27 doOp.eq_28 doOp.eq_29 doOp.eq_30 doOp.eq_31 doOp.eq_32 doOp.eq_33 doOp.eq_34 doOp.eq_35 doOp.eq_36
attribute [go_sem] boolV.eq_1 boolV.eq_2
attribute [go_sem] isBoolA.eq_1 isBoolA.eq_2
attribute [go_sem] gdV.eq_1 gdV.eq_2 gdV.eq_3
attribute [go_sem] gdOk.eq_1 gdOk.eq_2 gdOk.eq_3
attribute [go_sem] rdu.eq_1 rdu.eq_2 rdu.eq_3
attribute [go_sem] guarded.eq_1 guarded.eq_2 guarded.eq_3 guarded.eq_4
attribute [go_sem] insGG.eq_1 insGG.eq_2
attribute [go_sem] insG.eq_1 insG.eq_2
attribute [go_sem] doList.eq_1 doList.eq_2
attribute [go_sem] keepTm.eq_1 keepTm.eq_2 keepTm.eq_3
attribute [go_sem] keepOb.eq_1 keepOb.eq_2
attribute [go_sem] ddp.eq_1 ddp.eq_2
attribute [go_sem] rho.eq_1 rho.eq_2
attribute [go_sem] AV.re1.eq_1 AV.re1.eq_2 AV.re1.eq_3 AV.re1.eq_4 AV.re1.eq_5 AV.re1.eq_6 AV.re1.eq_7 AV.re1.eq_8 AV.re1.eq_9 AV.re1.eq_10 AV.re1.eq_11 AV.re1.eq_12 AV.re1.eq_13 AV.re1.eq_14 AV.re1.eq_15 AV.re1.eq_16
attribute [go_sem] AV.re.eq_1 AV.re.eq_2 AV.re.eq_3 AV.re.eq_4 AV.re.eq_5 AV.re.eq_6 AV.re.eq_7 AV.re.eq_8 AV.re.eq_9 AV.re.eq_10 AV.re.eq_11 AV.re.eq_12 AV.re.eq_13 AV.re.eq_14 AV.re.eq_15 AV.re.eq_16
attribute [go_sem] reOne.eq_1 reOne.eq_2
attribute [go_sem] reOb.eq_1 reOb.eq_2
attribute [go_sem] canonO.eq_1 canonO.eq_2
attribute [go_sem] thenR.eq_1 thenR.eq_2 thenR.eq_3
attribute [go_sem] inBlk.eq_1 inBlk.eq_2 inBlk.eq_3
attribute [go_sem] condR.eq_1 condR.eq_2
attribute [go_sem] maskX.eq_1 maskX.eq_2 maskX.eq_3
attribute [go_sem] maskN.eq_1 maskN.eq_2 maskN.eq_3
attribute [go_sem] altsOk.eq_1 altsOk.eq_2
attribute [go_sem] exec.eq_1 exec.eq_2 exec.eq_3 exec.eq_4 exec.eq_5 exec.eq_6 exec.eq_7 exec.eq_8 exec.eq_9 exec.eq_10 exec.eq_11 exec.eq_12 exec.eq_13
attribute [go_sem] initTm.eq_1 initTm.eq_2 initTm.eq_3 initTm.eq_4
attribute [go_sem] initOb.eq_1 initOb.eq_2 initOb.eq_3 initOb.eq_4
attribute [go_sem] resCell.eq_1 resCell.eq_2
attribute [go_sem] resOf.eq_1 resOf.eq_2
attribute [go_sem] giveHm.eq_1 giveHm.eq_2
attribute [go_sem] giveRf.eq_1 giveRf.eq_2
attribute [go_sem] giveOne.eq_1 giveOne.eq_2 giveOne.eq_3 giveOne.eq_4 giveOne.eq_5 giveOne.eq_6 giveOne.eq_7 giveOne.eq_8 giveOne.eq_9 giveOne.eq_10 giveOne.eq_11 giveOne.eq_12 giveOne.eq_13 giveOne.eq_14 giveOne.eq_15 giveOne.eq_16
attribute [go_sem] frzR.eq_1 frzR.eq_2 frzR.eq_3
attribute [go_sem] frzRs.eq_1 frzRs.eq_2
attribute [go_sem] isMem.eq_1 isMem.eq_2
attribute [go_sem] backHm.eq_1 backHm.eq_2
attribute [go_sem] elsLen.eq_1 elsLen.eq_2 elsLen.eq_3
attribute [go_sem] backOne.eq_1 backOne.eq_2 backOne.eq_3
attribute [go_sem] backL.eq_1 backL.eq_2
attribute [go_sem] ioParams.eq_1 ioParams.eq_2 ioParams.eq_3 ioParams.eq_4
attribute [go_sem] packR.eq_1 packR.eq_2 packR.eq_3
attribute [go_sem] finish.eq_1 finish.eq_2 finish.eq_3
attribute [go_sem] isSh List.set_cons_succ List.set_cons_zero List.getD_cons_zero List.getD_cons_succ List.map_cons List.map_nil List.length_cons List.length_nil List.cons_append List.nil_append List.append_nil List.replicate_succ List.replicate_zero List.any_cons List.any_nil List.all_cons List.all_nil Nat.reduceMod Nat.reduceAdd Nat.reduceMul Nat.reduceSub Nat.reduceDiv Nat.reduceEqDiff Nat.reduceLeDiff Nat.reduceBEq Nat.reduceBeqDiff Nat.reduceLT decide_true decide_false reduceCtorEq List.flatMap_nil List.flatMap_cons Bool.false_eq_true Bool.and_self Bool.or_self Bool.not_false Bool.not_true Bool.not_not Bool.and_true Bool.true_and Bool.false_and Bool.and_false Bool.or_true Bool.true_or Bool.or_false Bool.false_or List.drop_zero List.drop_succ_cons List.take_succ_cons List.take_zero List.isEmpty_nil List.isEmpty_cons if_true if_false ite_self decide_eq_true_eq beq_self_eq_true Int.toNat_natCast Int.reduceNeg Int.reduceLE Int.reduceLT Int.reduceToNat Int.reduceEq Int.reduceBEq Option.map_some Option.map_none Option.toList_some Option.toList_none
attribute [go_sem ↓] reduceIte
theorem iter_succ (f : St → Res) (k o r : List Bool) (n : Nat) (s : St) : iter f k o r (n + 1) s = thenR (iter f k o r n) (maskX k o r (f s)) := rfl
theorem getD_mapL {α : Type} (f : α → AV) (xs : List α) (e : α) {i : Nat} (h : i < xs.length) : (xs.map f).getD i .any = f (xs.getD i e) := by
  simp [List.getD_eq_getElem?_getD, List.getElem?_map, List.getElem?_eq_getElem h]
attribute [go_sem] List.length_map List.length_append List.length_set List.length_replicate List.length_drop List.length_take
end Go.Proofs.YtbobhejdijcofaaGreatDoor
