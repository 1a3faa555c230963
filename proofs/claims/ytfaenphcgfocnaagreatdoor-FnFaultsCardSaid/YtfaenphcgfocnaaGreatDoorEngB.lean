/- Rules by which the interpreter is run inside a proof. No condition. -/
import Derived.Test.YtfaenphcgfocnaaGreatDoorEngA
namespace Go.Proofs.YtfaenphcgfocnaaGreatDoor
open Go
theorem kJ {c:Prop} [Decidable c] (x y:EB) (k:St → EB):HS k (if c then x else y) = if c then HS k x else HS k y:=by split <;> rfl
theorem nI {c:Prop} [Decidable c] (id:Nat) (x y:EB):Mu id (if c then x else y) = if c then Mu id x else Mu id y:=by split <;> rfl
theorem km {c:Prop} [Decidable c] (a b d:List Bool) (x y:EB):HY a b d (if c then x else y) = if c then HY a b d x else HY a b d y:=by split <;> rfl
theorem kn {c:Prop} [Decidable c] (m:List Bool) (x y:EB):Pq m (if c then x else y) = if c then Pq m x else Pq m y:=by split <;> rfl
theorem iP {c:Prop} [Decidable c] (fn:CI) (m:List Md) (a:List AV) (x y:EB):Ir fn m a (if c then x else y) = if c then Ir fn m a x else Ir fn m a y:=by split <;> rfl
theorem uL {c:Prop} [Decidable c] (b:Bool) (x y:Rs):fH b (if c then x else y) = if c then fH b x else fH b y:=by split <;> rfl
theorem ng (x:Rs):fH true x = x:=rfl
theorem imp1 (a b:Bool):(!(a && b) || a) = true:=by cases a <;> cases b <;> rfl
theorem imp2 (a:Bool):(!a || a) = true:=by cases a <;> rfl
theorem imp3 (a b:Bool):(!(a && b) || b) = true:=by cases a <;> cases b <;> rfl
theorem imp4 (a b c:Bool):(!(a && b && c) || a) = true:=by cases a <;> cases b <;> cases c <;> rfl
theorem imp5 (a b c:Bool):(!(a && (b && c)) || b) = true:=by cases a <;> cases b <;> cases c <;> rfl
theorem pH (a:Bool):(a == true) = a:=by cases a <;> rfl
theorem il (a:Bool):(a == false) = !a:=by cases a <;> rfl
theorem ACq (a b:Bool):(bif a then b else false) = (a && b):=by cases a <;> rfl
theorem ACp (a b:Bool):(bif a then true else b) = (a || b):=by cases a <;> rfl
theorem TZ {α:Type} (a b:α):(bif true then a else b) = a:=rfl
theorem SM {α:Type} (a b:α):(bif false then a else b) = b:=rfl
attribute [go_sem] kJ nI km kn iP uL ng imp1 imp2 imp3 imp4 imp5 pH il ACq ACp TZ SM
attribute [go_sem] dJ Rs.bad AV.names AV.kill AV.atoms bad Cb Dz Ej Co Ba dS cut Th OB YK clear OK Ca fail apart killAll PK Lb Hy CJ PQ IF Ko Lt XC JB Kz iI CS drop keepB Sl canonK fI keepS SQ slots kC RB PN Aa Sc AGh cV YB fits fH Ky
attribute [go_sem] AV.cells.eq_1 AV.cells.eq_2 AV.cells.eq_3 AV.cells.eq_4 AV.cells.eq_5 AV.cells.eq_6 AV.cells.eq_7 AV.cells.eq_8 AV.cells.eq_9 AV.cells.eq_10 AV.cells.eq_11 AV.cells.eq_12 AV.cells.eq_13 AV.cells.eq_14 AV.cells.eq_15 AV.cells.eq_16
attribute [go_sem] AV.isAgg.eq_1 AV.isAgg.eq_2
attribute [go_sem] rd.eq_1 rd.eq_2 rd.eq_3
attribute [go_sem] AN.eq_1 AN.eq_2
attribute [go_sem] CD.eq_1 CD.eq_2
attribute [go_sem] Ik.eq_1 Ik.eq_2
attribute [go_sem] AV.key1.eq_1 AV.key1.eq_2 AV.key1.eq_3 AV.key1.eq_4 AV.key1.eq_5 AV.key1.eq_6 AV.key1.eq_7 AV.key1.eq_8 AV.key1.eq_9 AV.key1.eq_10 AV.key1.eq_11 AV.key1.eq_12 AV.key1.eq_13 AV.key1.eq_14 AV.key1.eq_15 AV.key1.eq_16
attribute [go_sem] AV.keys.eq_1 AV.keys.eq_2 AV.keys.eq_3 AV.keys.eq_4 AV.keys.eq_5 AV.keys.eq_6 AV.keys.eq_7 AV.keys.eq_8 AV.keys.eq_9 AV.keys.eq_10 AV.keys.eq_11 AV.keys.eq_12 AV.keys.eq_13 AV.keys.eq_14 AV.keys.eq_15 AV.keys.eq_16
attribute [go_sem] AV.fz1.eq_1 AV.fz1.eq_2 AV.fz1.eq_3 AV.fz1.eq_4 AV.fz1.eq_5 AV.fz1.eq_6 AV.fz1.eq_7 AV.fz1.eq_8 AV.fz1.eq_9 AV.fz1.eq_10 AV.fz1.eq_11 AV.fz1.eq_12 AV.fz1.eq_13 AV.fz1.eq_14 AV.fz1.eq_15 AV.fz1.eq_16
attribute [go_sem] AV.fz.eq_1 AV.fz.eq_2 AV.fz.eq_3 AV.fz.eq_4 AV.fz.eq_5 AV.fz.eq_6 AV.fz.eq_7 AV.fz.eq_8 AV.fz.eq_9 AV.fz.eq_10 AV.fz.eq_11 AV.fz.eq_12 AV.fz.eq_13 AV.fz.eq_14 AV.fz.eq_15 AV.fz.eq_16
attribute [go_sem] freezeH.eq_1 freezeH.eq_2
attribute [go_sem] freezeAll.eq_1 freezeAll.eq_2
attribute [go_sem] pu.eq_1 pu.eq_2
attribute [go_sem] dm.eq_1 dm.eq_2
attribute [go_sem] AV.dv1.eq_1 AV.dv1.eq_2 AV.dv1.eq_3 AV.dv1.eq_4 AV.dv1.eq_5 AV.dv1.eq_6 AV.dv1.eq_7 AV.dv1.eq_8 AV.dv1.eq_9 AV.dv1.eq_10 AV.dv1.eq_11 AV.dv1.eq_12 AV.dv1.eq_13 AV.dv1.eq_14 AV.dv1.eq_15 AV.dv1.eq_16
attribute [go_sem] AV.dv.eq_1 AV.dv.eq_2 AV.dv.eq_3 AV.dv.eq_4 AV.dv.eq_5 AV.dv.eq_6 AV.dv.eq_7 AV.dv.eq_8 AV.dv.eq_9 AV.dv.eq_10 AV.dv.eq_11 AV.dv.eq_12 AV.dv.eq_13 AV.dv.eq_14 AV.dv.eq_15 AV.dv.eq_16
attribute [go_sem] AV.atom.eq_1 AV.atom.eq_2 AV.atom.eq_3 AV.atom.eq_4 AV.atom.eq_5 AV.atom.eq_6 AV.atom.eq_7 AV.atom.eq_8 AV.atom.eq_9 AV.atom.eq_10 AV.atom.eq_11 AV.atom.eq_12 AV.atom.eq_13 AV.atom.eq_14 AV.atom.eq_15 AV.atom.eq_16
attribute [go_sem] AV.simple.eq_1 AV.simple.eq_2 AV.simple.eq_3 AV.simple.eq_4 AV.simple.eq_5 AV.simple.eq_6 AV.simple.eq_7 AV.simple.eq_8 AV.simple.eq_9 AV.simple.eq_10 AV.simple.eq_11 AV.simple.eq_12 AV.simple.eq_13 AV.simple.eq_14 AV.simple.eq_15 AV.simple.eq_16
attribute [go_sem] part.eq_1 part.eq_2
attribute [go_sem] putCells.eq_1 putCells.eq_2
attribute [go_sem] AV.like.eq_1 AV.like.eq_2 AV.like.eq_3
attribute [go_sem] Gc.eq_1 Gc.eq_2 Gc.eq_3 Gc.eq_4 Gc.eq_5 Gc.eq_6 Gc.eq_7 Gc.eq_8 Gc.eq_9 Gc.eq_10 Gc.eq_11 Gc.eq_12 Gc.eq_13 Gc.eq_14 Gc.eq_15 Gc.eq_16
attribute [go_sem] CO.eq_1 CO.eq_2 CO.eq_3 CO.eq_4 CO.eq_5 CO.eq_6 CO.eq_7 CO.eq_8 CO.eq_9 CO.eq_10 CO.eq_11 CO.eq_12 CO.eq_13 CO.eq_14 CO.eq_15 CO.eq_16
attribute [go_sem] XK.eq_1 XK.eq_2 XK.eq_3 XK.eq_4
attribute [go_sem] KH.eq_1 KH.eq_2
attribute [go_sem] KZ.eq_1 KZ.eq_2 KZ.eq_3 KZ.eq_4 KZ.eq_5 KZ.eq_6 KZ.eq_7 KZ.eq_8 KZ.eq_9 KZ.eq_10 KZ.eq_11 KZ.eq_12 KZ.eq_13 KZ.eq_14 KZ.eq_15 KZ.eq_16 KZ.eq_17
attribute [go_sem] SA.eq_1 SA.eq_2 SA.eq_3 SA.eq_4 SA.eq_5 SA.eq_6 SA.eq_7 SA.eq_8
attribute [go_sem] af.eq_1 af.eq_2 af.eq_3
attribute [go_sem] yr.eq_1 yr.eq_2 yr.eq_3
attribute [go_sem] YO.eq_1 YO.eq_2 YO.eq_3 YO.eq_4
attribute [go_sem] zG.eq_1 zG.eq_2 zG.eq_3 zG.eq_4
attribute [go_sem] Zu.eq_1 Zu.eq_2 Zu.eq_3 Zu.eq_4
attribute [go_sem] JX.eq_1 JX.eq_2
attribute [go_sem] GV.eq_1 GV.eq_2 GV.eq_3
attribute [go_sem] NB.eq_1 NB.eq_2
attribute [go_sem] vK.eq_1 vK.eq_2 vK.eq_3 vK.eq_4 vK.eq_5
attribute [go_sem] MM.eq_1 MM.eq_2
attribute [go_sem] GB.eq_1 GB.eq_2
attribute [go_sem] Yi.eq_1 Yi.eq_2
attribute [go_sem] eA.eq_1 eA.eq_2
attribute [go_sem] Kl.eq_1 Kl.eq_2 Kl.eq_3
attribute [go_sem] LC.eq_1 LC.eq_2 LC.eq_3 LC.eq_4
attribute [go_sem] YG.eq_1 YG.eq_2
attribute [go_sem] gK.eq_1 gK.eq_2
attribute [go_sem] jF.eq_1 jF.eq_2
attribute [go_sem] Ti.eq_1 Ti.eq_2 Ti.eq_3 Ti.eq_4
attribute [go_sem] jR.eq_1 jR.eq_2
attribute [go_sem] Tb.eq_1 Tb.eq_2 Tb.eq_3 Tb.eq_4 Tb.eq_5
attribute [go_sem] HZ.eq_1 HZ.eq_2
attribute [go_sem] KG.eq_1 KG.eq_2 KG.eq_3 KG.eq_4
attribute [go_sem] Jh.eq_1 Jh.eq_2 Jh.eq_3
attribute [go_sem] jT.eq_1 jT.eq_2
attribute [go_sem] Im.eq_1 Im.eq_2 Im.eq_3
attribute [go_sem] Ms.eq_1 Ms.eq_2
attribute [go_sem] ep.eq_1 ep.eq_2
attribute [go_sem] YC.eq_1 YC.eq_2
attribute [go_sem] My.eq_1 My.eq_2
attribute [go_sem] Kw.eq_1 Kw.eq_2
attribute [go_sem] setOk.eq_1 setOk.eq_2
attribute [go_sem] mm2.eq_1 mm2.eq_2
attribute [go_sem] Sf.eq_1 Sf.eq_2
attribute [go_sem] bO.eq_1 bO.eq_2
attribute [go_sem] wC.eq_1 wC.eq_2
attribute [go_sem] XM.eq_1 XM.eq_2
attribute [go_sem] AS.eq_1 AS.eq_2 AS.eq_3 AS.eq_4 AS.eq_5 AS.eq_6 AS.eq_7 AS.eq_8 AS.eq_9 AS.eq_10 AS.eq_11 AS.eq_12 AS.eq_13 AS.eq_14 AS.eq_15 AS.eq_16 AS.eq_17 AS.eq_18 AS.eq_19 AS.eq_20 AS.eq_21 AS.eq_22 AS.eq_23 AS.eq_24 AS.eq_25 AS.eq_26 AS.eq_27 AS.eq_28 AS.eq_29 AS.eq_30 AS.eq_31 AS.eq_32 AS.eq_33 AS.eq_34 AS.eq_35 AS.eq_36
attribute [go_sem] nT.eq_1 nT.eq_2 nT.eq_3
attribute [go_sem] tv.eq_1 tv.eq_2
attribute [go_sem] KT.eq_1 KT.eq_2 KT.eq_3 KT.eq_4
attribute [go_sem] Iu.eq_1 Iu.eq_2 Iu.eq_3 Iu.eq_4
attribute [go_sem] adopt.eq_1 adopt.eq_2 adopt.eq_3 adopt.eq_4 adopt.eq_5 adopt.eq_6 adopt.eq_7 adopt.eq_8 adopt.eq_9 adopt.eq_10 adopt.eq_11 adopt.eq_12 adopt.eq_13 adopt.eq_14 adopt.eq_15 adopt.eq_16
attribute [go_sem] YX.eq_1 YX.eq_2 YX.eq_3
attribute [go_sem] Dy.eq_1 Dy.eq_2
attribute [go_sem] BE.eq_1 BE.eq_2 BE.eq_3 BE.eq_4
attribute [go_sem] DW.eq_1 DW.eq_2
attribute [go_sem] Mv.eq_1 Mv.eq_2
attribute [go_sem] Pf.eq_1 Pf.eq_2
attribute [go_sem] Hr.eq_1 Hr.eq_2
attribute [go_sem] gX.eq_1 gX.eq_2
attribute [go_sem] Oz.eq_1 Oz.eq_2
attribute [go_sem] IH.eq_1 IH.eq_2 IH.eq_3 IH.eq_4
attribute [go_sem] Fr.eq_1 Fr.eq_2 Fr.eq_3 Fr.eq_4 Fr.eq_5 Fr.eq_6 Fr.eq_7 Fr.eq_8 Fr.eq_9 Fr.eq_10 Fr.eq_11 Fr.eq_12 Fr.eq_13 Fr.eq_14 Fr.eq_15 Fr.eq_16
attribute [go_sem] XV.eq_1 XV.eq_2
attribute [go_sem] ED.eq_1 ED.eq_2 ED.eq_3 ED.eq_4 ED.eq_5
attribute [go_sem] DI.eq_1 DI.eq_2 DI.eq_3
attribute [go_sem] BV.eq_1 BV.eq_2
attribute [go_sem] BX.eq_1 BX.eq_2 BX.eq_3 BX.eq_4
attribute [go_sem] Dh.eq_1 Dh.eq_2 Dh.eq_3 Dh.eq_4
attribute [go_sem] DL.eq_1 DL.eq_2
attribute [go_sem] Am.eq_1 Am.eq_2 Am.eq_3 Am.eq_4 Am.eq_5 Am.eq_6 Am.eq_7
attribute [go_sem] Kr.eq_1 Kr.eq_2
attribute [go_sem] YM.eq_1 YM.eq_2
attribute [go_sem] ON.eq_1 ON.eq_2
attribute [go_sem] IL.eq_1 IL.eq_2
attribute [go_sem] ZI.eq_1 ZI.eq_2
attribute [go_sem] Bz.eq_1 Bz.eq_2 Bz.eq_3 Bz.eq_4 Bz.eq_5
attribute [go_sem] So.eq_1 So.eq_2
attribute [go_sem] PC.eq_1 PC.eq_2 PC.eq_3
attribute [go_sem] CN.eq_1 CN.eq_2 CN.eq_3 CN.eq_4 CN.eq_5 CN.eq_6
attribute [go_sem] AV.lone.eq_1 AV.lone.eq_2 AV.lone.eq_3 AV.lone.eq_4 AV.lone.eq_5 AV.lone.eq_6 AV.lone.eq_7 AV.lone.eq_8 AV.lone.eq_9 AV.lone.eq_10 AV.lone.eq_11 AV.lone.eq_12 AV.lone.eq_13 AV.lone.eq_14 AV.lone.eq_15 AV.lone.eq_16
attribute [go_sem] BK.eq_1 BK.eq_2 BK.eq_3 BK.eq_4 BK.eq_5 BK.eq_6 BK.eq_7 BK.eq_8 BK.eq_9 BK.eq_10 BK.eq_11 BK.eq_12 BK.eq_13 BK.eq_14 BK.eq_15 BK.eq_16 BK.eq_17 BK.eq_18 BK.eq_19 BK.eq_20 BK.eq_21 BK.eq_22 BK.eq_23 BK.eq_24 BK.eq_25 BK.eq_26
attribute [go_sem] BB.eq_1 BB.eq_2 BB.eq_3 BB.eq_4 BB.eq_5 BB.eq_6 BB.eq_7 BB.eq_8 BB.eq_9 BB.eq_10 BB.eq_11 BB.eq_12 BB.eq_13 BB.eq_14 BB.eq_15 BB.eq_16 BB.eq_17 BB.eq_18 BB.eq_19 BB.eq_20 BB.eq_21 BB.eq_22 BB.eq_23 BB.eq_24 BB.eq_25
attribute [go_sem] HU.eq_1 HU.eq_2 HU.eq_3
attribute [go_sem] Cf.eq_1 Cf.eq_2 Cf.eq_3 Cf.eq_4 Cf.eq_5 Cf.eq_6 Cf.eq_7 Cf.eq_8 Cf.eq_9 Cf.eq_10 Cf.eq_11 Cf.eq_12 Cf.eq_13 Cf.eq_14 Cf.eq_15 Cf.eq_16
attribute [go_sem] Gt.eq_1 Gt.eq_2 Gt.eq_3 Gt.eq_4 Gt.eq_5 Gt.eq_6 Gt.eq_7 Gt.eq_8 Gt.eq_9
attribute [go_sem] Dp.eq_1 Dp.eq_2 Dp.eq_3
attribute [go_sem] Ry.eq_1 Ry.eq_2
attribute [go_sem] IK.eq_1 IK.eq_2
attribute [go_sem] EE.eq_1 EE.eq_2 EE.eq_3 EE.eq_4 EE.eq_5 EE.eq_6 EE.eq_7 EE.eq_8 EE.eq_9 EE.eq_10 EE.eq_11 EE.eq_12 EE.eq_13 EE.eq_14 EE.eq_15 EE.eq_16 EE.eq_17
attribute [go_sem] Mo.eq_1 Mo.eq_2 Mo.eq_3
attribute [go_sem] HT.eq_1 HT.eq_2 HT.eq_3 HT.eq_4 HT.eq_5
attribute [go_sem] DG.eq_1 DG.eq_2 DG.eq_3 DG.eq_4 DG.eq_5
attribute [go_sem] JC.eq_1 JC.eq_2 JC.eq_3 JC.eq_4 JC.eq_5 JC.eq_6 JC.eq_7 JC.eq_8 JC.eq_9 JC.eq_10 JC.eq_11 JC.eq_12 JC.eq_13 JC.eq_14 JC.eq_15 JC.eq_16
attribute [go_sem] JK.eq_1 JK.eq_2
attribute [go_sem] By.eq_1 By.eq_2 By.eq_3 By.eq_4 By.eq_5 By.eq_6 By.eq_7 By.eq_8 By.eq_9 By.eq_10 By.eq_11 By.eq_12 By.eq_13 By.eq_14 By.eq_15 By.eq_16 By.eq_17 By.eq_18 By.eq_19 By.eq_20 By.eq_21 By.eq_22 By.eq_23 By.eq_24 By.eq_25 By.eq_26 By.eq_27 By.eq_28 By.eq_29 By.eq_30 By.eq_31 By.eq_32 By.eq_33 By.eq_34 By.eq_35 By.eq_36
attribute [go_sem] uY.eq_1 uY.eq_2
attribute [go_sem] Tp.eq_1 Tp.eq_2
attribute [go_sem] eZ.eq_1 eZ.eq_2 eZ.eq_3
attribute [go_sem] Mx.eq_1 Mx.eq_2 Mx.eq_3
attribute [go_sem] Rv.eq_1 Rv.eq_2 Rv.eq_3
attribute [go_sem] CY.eq_1 CY.eq_2 CY.eq_3 CY.eq_4
attribute [go_sem] Jp.eq_1 Jp.eq_2
attribute [go_sem] Sb.eq_1 Sb.eq_2
attribute [go_sem] EG.eq_1 EG.eq_2
attribute [go_sem] Ga.eq_1 Ga.eq_2 Ga.eq_3
attribute [go_sem] Mr.eq_1 Mr.eq_2
attribute [go_sem] zI.eq_1 zI.eq_2
attribute [go_sem] jK.eq_1 jK.eq_2
attribute [go_sem] AV.re1.eq_1 AV.re1.eq_2 AV.re1.eq_3 AV.re1.eq_4 AV.re1.eq_5 AV.re1.eq_6 AV.re1.eq_7 AV.re1.eq_8 AV.re1.eq_9 AV.re1.eq_10 AV.re1.eq_11 AV.re1.eq_12 AV.re1.eq_13 AV.re1.eq_14 AV.re1.eq_15 AV.re1.eq_16
attribute [go_sem] AV.re.eq_1 AV.re.eq_2 AV.re.eq_3 AV.re.eq_4 AV.re.eq_5 AV.re.eq_6 AV.re.eq_7 AV.re.eq_8 AV.re.eq_9 AV.re.eq_10 AV.re.eq_11 AV.re.eq_12 AV.re.eq_13 AV.re.eq_14 AV.re.eq_15 AV.re.eq_16
attribute [go_sem] ZO.eq_1 ZO.eq_2
attribute [go_sem] az.eq_1 az.eq_2
attribute [go_sem] iV.eq_1 iV.eq_2
attribute [go_sem] HS.eq_1 HS.eq_2 HS.eq_3
attribute [go_sem] Mu.eq_1 Mu.eq_2 Mu.eq_3
attribute [go_sem] KN.eq_1 KN.eq_2
attribute [go_sem] HY.eq_1 HY.eq_2 HY.eq_3
attribute [go_sem] Pq.eq_1 Pq.eq_2 Pq.eq_3
attribute [go_sem] NJ.eq_1 NJ.eq_2
attribute [go_sem] Az.eq_1 Az.eq_2 Az.eq_3 Az.eq_4 Az.eq_5 Az.eq_6 Az.eq_7 Az.eq_8 Az.eq_9 Az.eq_10 Az.eq_11 Az.eq_12 Az.eq_13
attribute [go_sem] Jo.eq_1 Jo.eq_2 Jo.eq_3 Jo.eq_4
attribute [go_sem] Bm.eq_1 Bm.eq_2 Bm.eq_3 Bm.eq_4
attribute [go_sem] Tn.eq_1 Tn.eq_2
attribute [go_sem] MS.eq_1 MS.eq_2
attribute [go_sem] cX.eq_1 cX.eq_2
attribute [go_sem] cW.eq_1 cW.eq_2
attribute [go_sem] CC.eq_1 CC.eq_2 CC.eq_3 CC.eq_4 CC.eq_5 CC.eq_6 CC.eq_7 CC.eq_8 CC.eq_9 CC.eq_10 CC.eq_11 CC.eq_12 CC.eq_13 CC.eq_14 CC.eq_15 CC.eq_16
attribute [go_sem] Td.eq_1 Td.eq_2 Td.eq_3
attribute [go_sem] Qs.eq_1 Qs.eq_2
attribute [go_sem] Zf.eq_1 Zf.eq_2
attribute [go_sem] YR.eq_1 YR.eq_2
attribute [go_sem] ce.eq_1 ce.eq_2 ce.eq_3
attribute [go_sem] MO.eq_1 MO.eq_2 MO.eq_3
attribute [go_sem] Qy.eq_1 Qy.eq_2
attribute [go_sem] Gq.eq_1 Gq.eq_2 Gq.eq_3 Gq.eq_4
attribute [go_sem] Pl.eq_1 Pl.eq_2 Pl.eq_3
attribute [go_sem] Ir.eq_1 Ir.eq_2 Ir.eq_3
attribute [go_sem] AGR List.set_cons_succ List.set_cons_zero List.getD_cons_zero List.getD_cons_succ List.map_cons List.map_nil List.length_cons List.length_nil List.cons_append List.nil_append List.append_nil List.replicate_succ List.replicate_zero List.any_cons List.any_nil List.all_cons List.all_nil Nat.reduceMod Nat.reduceAdd Nat.reduceMul Nat.reduceSub Nat.reduceDiv Nat.reduceEqDiff Nat.reduceLeDiff Nat.reduceBEq Nat.reduceBeqDiff Nat.reduceLT decide_true decide_false reduceCtorEq List.flatMap_nil List.flatMap_cons Bool.false_eq_true Bool.and_self Bool.or_self Bool.not_false Bool.not_true Bool.not_not Bool.and_true Bool.true_and Bool.false_and Bool.and_false Bool.or_true Bool.true_or Bool.or_false Bool.false_or List.drop_zero List.drop_succ_cons List.take_succ_cons List.take_zero List.isEmpty_nil List.isEmpty_cons if_true if_false ite_self decide_eq_true_eq beq_self_eq_true Int.toNat_natCast Int.reduceNeg Int.reduceLE Int.reduceLT Int.reduceToNat Int.reduceEq Int.reduceBEq Option.map_some Option.map_none Option.toList_some Option.toList_none
attribute [go_sem ↓] reduceIte
theorem Zc (f:St → EB) (k o r:List Bool) (n:Nat) (s:St):Bk f k o r (n + 1) s = HS (Bk f k o r n) (HY k o r (f s)):=rfl
theorem nS {α:Type} (f:α → AV) (xs:List α) (e:α) {i:Nat} (h:i < xs.length):(xs.map f).getD i .any = f (xs.getD i e):=by
 simp [List.getD_eq_getElem?_getD,List.getElem?_map,List.getElem?_eq_getElem h]
attribute [go_sem] List.length_map List.length_append List.length_set List.length_replicate List.length_drop List.length_take
end Go.Proofs.YtfaenphcgfocnaaGreatDoor
