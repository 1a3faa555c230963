/- Rules by which the interpreter is run inside a proof. No condition. -/
import Derived.Test.YthdmeanbdohehaaGreatDoorEngA
namespace Go.Proofs.YthdmeanbdohehaaGreatDoor
open Go
theorem cF {c : Prop} [Decidable c] (x y : FT) (k : St → FT) : GI k (if c then x else y) = if c then GI k x else GI k y := by split <;> rfl
theorem dK {c : Prop} [Decidable c] (id : Nat) (x y : FT) : Kx id (if c then x else y) = if c then Kx id x else Kx id y := by split <;> rfl
theorem co {c : Prop} [Decidable c] (a b d : List Bool) (x y : FT) : GL a b d (if c then x else y) = if c then GL a b d x else GL a b d y := by split <;> rfl
theorem cp {c : Prop} [Decidable c] (m : List Bool) (x y : FT) : NN m (if c then x else y) = if c then NN m x else NN m y := by split <;> rfl
theorem aK {c : Prop} [Decidable c] (fn : EL) (m : List Md) (a : List AV) (x y : FT) : Gz fn m a (if c then x else y) = if c then Gz fn m a x else Gz fn m a y := by split <;> rfl
theorem kl {c : Prop} [Decidable c] (b : Bool) (x y : Rs) : ZD b (if c then x else y) = if c then ZD b x else ZD b y := by split <;> rfl
theorem de (x : Rs) : ZD true x = x := rfl
theorem imp1 (a b : Bool) : (!(a && b) || a) = true := by cases a <;> cases b <;> rfl
theorem imp2 (a : Bool) : (!a || a) = true := by cases a <;> rfl
theorem imp3 (a b : Bool) : (!(a && b) || b) = true := by cases a <;> cases b <;> rfl
theorem imp4 (a b c : Bool) : (!(a && b && c) || a) = true := by cases a <;> cases b <;> cases c <;> rfl
theorem imp5 (a b c : Bool) : (!(a && (b && c)) || b) = true := by cases a <;> cases b <;> cases c <;> rfl
theorem ex (a : Bool) : (a == true) = a := by cases a <;> rfl
theorem ae (a : Bool) : (a == false) = !a := by cases a <;> rfl
theorem ry (a b : Bool) : (bif a then b else false) = (a && b) := by cases a <;> rfl
theorem rx (a b : Bool) : (bif a then true else b) = (a || b) := by cases a <;> rfl
theorem QI {α : Type} (a b : α) : (bif true then a else b) = a := rfl
theorem PC {α : Type} (a b : α) : (bif false then a else b) = b := rfl
attribute [go_sem] cF dK co cp aK kl de imp1 imp2 imp3 imp4 imp5 ex ae ry rx QI PC
attribute [go_sem] Xr Rs.bad AV.names AV.kill AV.atoms bad Ca Dy EU Cc BQ Xu cut QQ Lp UT clear MB CZ Ct apart killAll Mp Jj GY CJ Ms Gc In Jy TR HI Iz aD CT drop keepB Pi canonK ZE keepS PG slots bt Ob Mq Au Pb uZ XF UI fits ZD Iy
attribute [go_sem] AV.cells.eq_1 AV.cells.eq_2 AV.cells.eq_3 AV.cells.eq_4 AV.cells.eq_5 AV.cells.eq_6 AV.cells.eq_7 AV.cells.eq_8 AV.cells.eq_9 AV.cells.eq_10 AV.cells.eq_11 AV.cells.eq_12 AV.cells.eq_13 AV.cells.eq_14 AV.cells.eq_15 AV.cells.eq_16
attribute [go_sem] AV.isAgg.eq_1 AV.isAgg.eq_2
attribute [go_sem] rd.eq_1 rd.eq_2 rd.eq_3
attribute [go_sem] AL.eq_1 AL.eq_2
attribute [go_sem] CD.eq_1 CD.eq_2
attribute [go_sem] Gq.eq_1 Gq.eq_2
attribute [go_sem] AV.key1.eq_1 AV.key1.eq_2 AV.key1.eq_3 AV.key1.eq_4 AV.key1.eq_5 AV.key1.eq_6 AV.key1.eq_7 AV.key1.eq_8 AV.key1.eq_9 AV.key1.eq_10 AV.key1.eq_11 AV.key1.eq_12 AV.key1.eq_13 AV.key1.eq_14 AV.key1.eq_15 AV.key1.eq_16
attribute [go_sem] AV.keys.eq_1 AV.keys.eq_2 AV.keys.eq_3 AV.keys.eq_4 AV.keys.eq_5 AV.keys.eq_6 AV.keys.eq_7 AV.keys.eq_8 AV.keys.eq_9 AV.keys.eq_10 AV.keys.eq_11 AV.keys.eq_12 AV.keys.eq_13 AV.keys.eq_14 AV.keys.eq_15 AV.keys.eq_16
attribute [go_sem] AV.fz1.eq_1 AV.fz1.eq_2 AV.fz1.eq_3 AV.fz1.eq_4 AV.fz1.eq_5 AV.fz1.eq_6 AV.fz1.eq_7 AV.fz1.eq_8 AV.fz1.eq_9 AV.fz1.eq_10 AV.fz1.eq_11 AV.fz1.eq_12 AV.fz1.eq_13 AV.fz1.eq_14 AV.fz1.eq_15 AV.fz1.eq_16
attribute [go_sem] AV.fz.eq_1 AV.fz.eq_2 AV.fz.eq_3 AV.fz.eq_4 AV.fz.eq_5 AV.fz.eq_6 AV.fz.eq_7 AV.fz.eq_8 AV.fz.eq_9 AV.fz.eq_10 AV.fz.eq_11 AV.fz.eq_12 AV.fz.eq_13 AV.fz.eq_14 AV.fz.eq_15 AV.fz.eq_16
attribute [go_sem] freezeH.eq_1 freezeH.eq_2
attribute [go_sem] freezeAll.eq_1 freezeAll.eq_2
attribute [go_sem] fk.eq_1 fk.eq_2
attribute [go_sem] YL.eq_1 YL.eq_2
attribute [go_sem] AV.dv1.eq_1 AV.dv1.eq_2 AV.dv1.eq_3 AV.dv1.eq_4 AV.dv1.eq_5 AV.dv1.eq_6 AV.dv1.eq_7 AV.dv1.eq_8 AV.dv1.eq_9 AV.dv1.eq_10 AV.dv1.eq_11 AV.dv1.eq_12 AV.dv1.eq_13 AV.dv1.eq_14 AV.dv1.eq_15 AV.dv1.eq_16
attribute [go_sem] AV.dv.eq_1 AV.dv.eq_2 AV.dv.eq_3 AV.dv.eq_4 AV.dv.eq_5 AV.dv.eq_6 AV.dv.eq_7 AV.dv.eq_8 AV.dv.eq_9 AV.dv.eq_10 AV.dv.eq_11 AV.dv.eq_12 AV.dv.eq_13 AV.dv.eq_14 AV.dv.eq_15 AV.dv.eq_16
attribute [go_sem] AV.atom.eq_1 AV.atom.eq_2 AV.atom.eq_3 AV.atom.eq_4 AV.atom.eq_5 AV.atom.eq_6 AV.atom.eq_7 AV.atom.eq_8 AV.atom.eq_9 AV.atom.eq_10 AV.atom.eq_11 AV.atom.eq_12 AV.atom.eq_13 AV.atom.eq_14 AV.atom.eq_15 AV.atom.eq_16
attribute [go_sem] AV.simple.eq_1 AV.simple.eq_2 AV.simple.eq_3 AV.simple.eq_4 AV.simple.eq_5 AV.simple.eq_6 AV.simple.eq_7 AV.simple.eq_8 AV.simple.eq_9 AV.simple.eq_10 AV.simple.eq_11 AV.simple.eq_12 AV.simple.eq_13 AV.simple.eq_14 AV.simple.eq_15 AV.simple.eq_16
attribute [go_sem] part.eq_1 part.eq_2
attribute [go_sem] Cn.eq_1 Cn.eq_2
attribute [go_sem] AV.like.eq_1 AV.like.eq_2 AV.like.eq_3
attribute [go_sem] FY.eq_1 FY.eq_2 FY.eq_3 FY.eq_4 FY.eq_5 FY.eq_6 FY.eq_7 FY.eq_8 FY.eq_9 FY.eq_10 FY.eq_11 FY.eq_12 FY.eq_13 FY.eq_14 FY.eq_15 FY.eq_16
attribute [go_sem] CQ.eq_1 CQ.eq_2 CQ.eq_3 CQ.eq_4 CQ.eq_5 CQ.eq_6 CQ.eq_7 CQ.eq_8 CQ.eq_9 CQ.eq_10 CQ.eq_11 CQ.eq_12 CQ.eq_13 CQ.eq_14 CQ.eq_15 CQ.eq_16
attribute [go_sem] Ta.eq_1 Ta.eq_2 Ta.eq_3 Ta.eq_4
attribute [go_sem] IQ.eq_1 IQ.eq_2
attribute [go_sem] If.eq_1 If.eq_2 If.eq_3 If.eq_4 If.eq_5 If.eq_6 If.eq_7 If.eq_8 If.eq_9 If.eq_10 If.eq_11 If.eq_12 If.eq_13 If.eq_14 If.eq_15 If.eq_16 If.eq_17
attribute [go_sem] Oy.eq_1 Oy.eq_2 Oy.eq_3 Oy.eq_4 Oy.eq_5 Oy.eq_6 Oy.eq_7 Oy.eq_8
attribute [go_sem] Vy.eq_1 Vy.eq_2 Vy.eq_3
attribute [go_sem] oC.eq_1 oC.eq_2 oC.eq_3
attribute [go_sem] UY.eq_1 UY.eq_2 UY.eq_3 UY.eq_4
attribute [go_sem] oM.eq_1 oM.eq_2 oM.eq_3 oM.eq_4
attribute [go_sem] Vp.eq_1 Vp.eq_2 Vp.eq_3 Vp.eq_4
attribute [go_sem] HX.eq_1 HX.eq_2
attribute [go_sem] FQ.eq_1 FQ.eq_2 FQ.eq_3
attribute [go_sem] LF.eq_1 LF.eq_2
attribute [go_sem] lV.eq_1 lV.eq_2 lV.eq_3 lV.eq_4 lV.eq_5
attribute [go_sem] KQ.eq_1 KQ.eq_2
attribute [go_sem] FD.eq_1 FD.eq_2
attribute [go_sem] Un.eq_1 Un.eq_2
attribute [go_sem] YT.eq_1 YT.eq_2
attribute [go_sem] Il.eq_1 Il.eq_2 Il.eq_3
attribute [go_sem] JC.eq_1 JC.eq_2 JC.eq_3 JC.eq_4
attribute [go_sem] UP.eq_1 UP.eq_2
attribute [go_sem] Zm.eq_1 Zm.eq_2
attribute [go_sem] az.eq_1 az.eq_2
attribute [go_sem] QR.eq_1 QR.eq_2 QR.eq_3 QR.eq_4
attribute [go_sem] bP.eq_1 bP.eq_2
attribute [go_sem] QJ.eq_1 QJ.eq_2 QJ.eq_3 QJ.eq_4 QJ.eq_5
attribute [go_sem] GM.eq_1 GM.eq_2
attribute [go_sem] IK.eq_1 IK.eq_2 IK.eq_3 IK.eq_4
attribute [go_sem] Hg.eq_1 Hg.eq_2 Hg.eq_3
attribute [go_sem] bT.eq_1 bT.eq_2
attribute [go_sem] Gt.eq_1 Gt.eq_2 Gt.eq_3
attribute [go_sem] Ko.eq_1 Ko.eq_2
attribute [go_sem] Yu.eq_1 Yu.eq_2
attribute [go_sem] UJ.eq_1 UJ.eq_2
attribute [go_sem] LC.eq_1 LC.eq_2
attribute [go_sem] Iw.eq_1 Iw.eq_2
attribute [go_sem] setOk.eq_1 setOk.eq_2
attribute [go_sem] mm2.eq_1 mm2.eq_2
attribute [go_sem] Pe.eq_1 Pe.eq_2
attribute [go_sem] WT.eq_1 WT.eq_2
attribute [go_sem] mQ.eq_1 mQ.eq_2
attribute [go_sem] Tc.eq_1 Tc.eq_2
attribute [go_sem] AO.eq_1 AO.eq_2 AO.eq_3 AO.eq_4 AO.eq_5 AO.eq_6 AO.eq_7 AO.eq_8 AO.eq_9 AO.eq_10 AO.eq_11 AO.eq_12 AO.eq_13 AO.eq_14 AO.eq_15 AO.eq_16 AO.eq_17 AO.eq_18 AO.eq_19 AO.eq_20 AO.eq_21 AO.eq_22 AO.eq_23 AO.eq_24 AO.eq_25 AO.eq_26 AO.eq_27 AO.eq_28 AO.eq_29 AO.eq_30 AO.eq_31 AO.eq_32 AO.eq_33 AO.eq_34 AO.eq_35 AO.eq_36
attribute [go_sem] dU.eq_1 dU.eq_2 dU.eq_3
attribute [go_sem] kN.eq_1 kN.eq_2
attribute [go_sem] Ie.eq_1 Ie.eq_2 Ie.eq_3 Ie.eq_4
attribute [go_sem] HF.eq_1 HF.eq_2 HF.eq_3 HF.eq_4
attribute [go_sem] adopt.eq_1 adopt.eq_2 adopt.eq_3 adopt.eq_4 adopt.eq_5 adopt.eq_6 adopt.eq_7 adopt.eq_8 adopt.eq_9 adopt.eq_10 adopt.eq_11 adopt.eq_12 adopt.eq_13 adopt.eq_14 adopt.eq_15 adopt.eq_16
attribute [go_sem] Ug.eq_1 Ug.eq_2 Ug.eq_3
attribute [go_sem] Dx.eq_1 Dx.eq_2
attribute [go_sem] Ar.eq_1 Ar.eq_2 Ar.eq_3 Ar.eq_4
attribute [go_sem] DJ.eq_1 DJ.eq_2
attribute [go_sem] Ky.eq_1 Ky.eq_2
attribute [go_sem] NE.eq_1 NE.eq_2
attribute [go_sem] GV.eq_1 GV.eq_2
attribute [go_sem] Zv.eq_1 Zv.eq_2
attribute [go_sem] Me.eq_1 Me.eq_2
attribute [go_sem] Gf.eq_1 Gf.eq_2 Gf.eq_3 Gf.eq_4
attribute [go_sem] Fg.eq_1 Fg.eq_2 Fg.eq_3 Fg.eq_4 Fg.eq_5 Fg.eq_6 Fg.eq_7 Fg.eq_8 Fg.eq_9 Fg.eq_10 Fg.eq_11 Fg.eq_12 Fg.eq_13 Fg.eq_14 Fg.eq_15 Fg.eq_16
attribute [go_sem] Tj.eq_1 Tj.eq_2
attribute [go_sem] EC.eq_1 EC.eq_2 EC.eq_3 EC.eq_4 EC.eq_5
attribute [go_sem] DB.eq_1 DB.eq_2 DB.eq_3
attribute [go_sem] BN.eq_1 BN.eq_2
attribute [go_sem] BI.eq_1 BI.eq_2 BI.eq_3 BI.eq_4
attribute [go_sem] Dc.eq_1 Dc.eq_2 Dc.eq_3 Dc.eq_4
attribute [go_sem] DE.eq_1 DE.eq_2
attribute [go_sem] Ac.eq_1 Ac.eq_2 Ac.eq_3 Ac.eq_4 Ac.eq_5 Ac.eq_6 Ac.eq_7
attribute [go_sem] Ir.eq_1 Ir.eq_2
attribute [go_sem] UU.eq_1 UU.eq_2
attribute [go_sem] ME.eq_1 ME.eq_2
attribute [go_sem] Gl.eq_1 Gl.eq_2
attribute [go_sem] VC.eq_1 VC.eq_2
attribute [go_sem] Bz.eq_1 Bz.eq_2 Bz.eq_3 Bz.eq_4 Bz.eq_5
attribute [go_sem] Pl.eq_1 Pl.eq_2
attribute [go_sem] Mi.eq_1 Mi.eq_2 Mi.eq_3
attribute [go_sem] CO.eq_1 CO.eq_2 CO.eq_3 CO.eq_4 CO.eq_5 CO.eq_6
attribute [go_sem] AV.lone.eq_1 AV.lone.eq_2 AV.lone.eq_3 AV.lone.eq_4 AV.lone.eq_5 AV.lone.eq_6 AV.lone.eq_7 AV.lone.eq_8 AV.lone.eq_9 AV.lone.eq_10 AV.lone.eq_11 AV.lone.eq_12 AV.lone.eq_13 AV.lone.eq_14 AV.lone.eq_15 AV.lone.eq_16
attribute [go_sem] BA.eq_1 BA.eq_2 BA.eq_3 BA.eq_4 BA.eq_5 BA.eq_6 BA.eq_7 BA.eq_8 BA.eq_9 BA.eq_10 BA.eq_11 BA.eq_12 BA.eq_13 BA.eq_14 BA.eq_15 BA.eq_16 BA.eq_17 BA.eq_18 BA.eq_19 BA.eq_20 BA.eq_21 BA.eq_22 BA.eq_23 BA.eq_24 BA.eq_25 BA.eq_26
attribute [go_sem] Al.eq_1 Al.eq_2 Al.eq_3 Al.eq_4 Al.eq_5 Al.eq_6 Al.eq_7 Al.eq_8 Al.eq_9 Al.eq_10 Al.eq_11 Al.eq_12 Al.eq_13 Al.eq_14 Al.eq_15 Al.eq_16 Al.eq_17 Al.eq_18 Al.eq_19 Al.eq_20 Al.eq_21 Al.eq_22 Al.eq_23 Al.eq_24 Al.eq_25
attribute [go_sem] GK.eq_1 GK.eq_2 GK.eq_3
attribute [go_sem] Ce.eq_1 Ce.eq_2 Ce.eq_3 Ce.eq_4 Ce.eq_5 Ce.eq_6 Ce.eq_7 Ce.eq_8 Ce.eq_9 Ce.eq_10 Ce.eq_11 Ce.eq_12 Ce.eq_13 Ce.eq_14 Ce.eq_15 Ce.eq_16
attribute [go_sem] Fr.eq_1 Fr.eq_2 Fr.eq_3 Fr.eq_4 Fr.eq_5 Fr.eq_6 Fr.eq_7 Fr.eq_8 Fr.eq_9
attribute [go_sem] Dt.eq_1 Dt.eq_2 Dt.eq_3
attribute [go_sem] Ox.eq_1 Ox.eq_2
attribute [go_sem] Gk.eq_1 Gk.eq_2
attribute [go_sem] EE.eq_1 EE.eq_2 EE.eq_3 EE.eq_4 EE.eq_5 EE.eq_6 EE.eq_7 EE.eq_8 EE.eq_9 EE.eq_10 EE.eq_11 EE.eq_12 EE.eq_13 EE.eq_14 EE.eq_15 EE.eq_16 EE.eq_17
attribute [go_sem] Km.eq_1 Km.eq_2 Km.eq_3
attribute [go_sem] GJ.eq_1 GJ.eq_2 GJ.eq_3 GJ.eq_4 GJ.eq_5
attribute [go_sem] Cz.eq_1 Cz.eq_2 Cz.eq_3 Cz.eq_4 Cz.eq_5
attribute [go_sem] HJ.eq_1 HJ.eq_2 HJ.eq_3 HJ.eq_4 HJ.eq_5 HJ.eq_6 HJ.eq_7 HJ.eq_8 HJ.eq_9 HJ.eq_10 HJ.eq_11 HJ.eq_12 HJ.eq_13 HJ.eq_14 HJ.eq_15 HJ.eq_16
attribute [go_sem] HQ.eq_1 HQ.eq_2
attribute [go_sem] By.eq_1 By.eq_2 By.eq_3 By.eq_4 By.eq_5 By.eq_6 By.eq_7 By.eq_8 By.eq_9 By.eq_10 By.eq_11 By.eq_12 By.eq_13 By.eq_14 By.eq_15 By.eq_16 By.eq_17 By.eq_18 By.eq_19 By.eq_20 By.eq_21 By.eq_22 By.eq_23 By.eq_24 By.eq_25 By.eq_26 By.eq_27 By.eq_28 By.eq_29 By.eq_30 By.eq_31 By.eq_32 By.eq_33 By.eq_34 By.eq_35 By.eq_36
attribute [go_sem] lB.eq_1 lB.eq_2
attribute [go_sem] QY.eq_1 QY.eq_2
attribute [go_sem] Yl.eq_1 Yl.eq_2 Yl.eq_3
attribute [go_sem] LB.eq_1 LB.eq_2 LB.eq_3
attribute [go_sem] Ow.eq_1 Ow.eq_2 Ow.eq_3
attribute [go_sem] CW.eq_1 CW.eq_2 CW.eq_3 CW.eq_4
attribute [go_sem] Hp.eq_1 Hp.eq_2
attribute [go_sem] Pa.eq_1 Pa.eq_2
attribute [go_sem] EF.eq_1 EF.eq_2
attribute [go_sem] FW.eq_1 FW.eq_2 FW.eq_3
attribute [go_sem] Kn.eq_1 Kn.eq_2
attribute [go_sem] oN.eq_1 oN.eq_2
attribute [go_sem] bF.eq_1 bF.eq_2
attribute [go_sem] AV.re1.eq_1 AV.re1.eq_2 AV.re1.eq_3 AV.re1.eq_4 AV.re1.eq_5 AV.re1.eq_6 AV.re1.eq_7 AV.re1.eq_8 AV.re1.eq_9 AV.re1.eq_10 AV.re1.eq_11 AV.re1.eq_12 AV.re1.eq_13 AV.re1.eq_14 AV.re1.eq_15 AV.re1.eq_16
attribute [go_sem] AV.re.eq_1 AV.re.eq_2 AV.re.eq_3 AV.re.eq_4 AV.re.eq_5 AV.re.eq_6 AV.re.eq_7 AV.re.eq_8 AV.re.eq_9 AV.re.eq_10 AV.re.eq_11 AV.re.eq_12 AV.re.eq_13 AV.re.eq_14 AV.re.eq_15 AV.re.eq_16
attribute [go_sem] VH.eq_1 VH.eq_2
attribute [go_sem] WJ.eq_1 WJ.eq_2
attribute [go_sem] aP.eq_1 aP.eq_2
attribute [go_sem] GI.eq_1 GI.eq_2 GI.eq_3
attribute [go_sem] Kx.eq_1 Kx.eq_2 Kx.eq_3
attribute [go_sem] Ic.eq_1 Ic.eq_2
attribute [go_sem] GL.eq_1 GL.eq_2 GL.eq_3
attribute [go_sem] NN.eq_1 NN.eq_2 NN.eq_3
attribute [go_sem] LN.eq_1 LN.eq_2
attribute [go_sem] BD.eq_1 BD.eq_2 BD.eq_3 BD.eq_4 BD.eq_5 BD.eq_6 BD.eq_7 BD.eq_8 BD.eq_9 BD.eq_10 BD.eq_11 BD.eq_12 BD.eq_13
attribute [go_sem] Hn.eq_1 Hn.eq_2 Hn.eq_3 Hn.eq_4
attribute [go_sem] CV.eq_1 CV.eq_2 CV.eq_3 CV.eq_4
attribute [go_sem] QW.eq_1 QW.eq_2
attribute [go_sem] KW.eq_1 KW.eq_2
attribute [go_sem] XH.eq_1 XH.eq_2
attribute [go_sem] XG.eq_1 XG.eq_2
attribute [go_sem] CB.eq_1 CB.eq_2 CB.eq_3 CB.eq_4 CB.eq_5 CB.eq_6 CB.eq_7 CB.eq_8 CB.eq_9 CB.eq_10 CB.eq_11 CB.eq_12 CB.eq_13 CB.eq_14 CB.eq_15 CB.eq_16
attribute [go_sem] QM.eq_1 QM.eq_2 QM.eq_3
attribute [go_sem] UF.eq_1 UF.eq_2
attribute [go_sem] VW.eq_1 VW.eq_2
attribute [go_sem] Ua.eq_1 Ua.eq_2
attribute [go_sem] XM.eq_1 XM.eq_2 XM.eq_3
attribute [go_sem] KS.eq_1 KS.eq_2 KS.eq_3
attribute [go_sem] OX.eq_1 OX.eq_2
attribute [go_sem] Fm.eq_1 Fm.eq_2 Fm.eq_3 Fm.eq_4
attribute [go_sem] NJ.eq_1 NJ.eq_2 NJ.eq_3
attribute [go_sem] Gz.eq_1 Gz.eq_2 Gz.eq_3
attribute [go_sem] uM List.set_cons_succ List.set_cons_zero List.getD_cons_zero List.getD_cons_succ List.map_cons List.map_nil List.length_cons List.length_nil List.cons_append List.nil_append List.append_nil List.replicate_succ List.replicate_zero List.any_cons List.any_nil List.all_cons List.all_nil Nat.reduceMod Nat.reduceAdd Nat.reduceMul Nat.reduceSub Nat.reduceDiv Nat.reduceEqDiff Nat.reduceLeDiff Nat.reduceBEq Nat.reduceBeqDiff Nat.reduceLT decide_true decide_false reduceCtorEq List.flatMap_nil List.flatMap_cons Bool.false_eq_true Bool.and_self Bool.or_self Bool.not_false Bool.not_true Bool.not_not Bool.and_true Bool.true_and Bool.false_and Bool.and_false Bool.or_true Bool.true_or Bool.or_false Bool.false_or List.drop_zero List.drop_succ_cons List.take_succ_cons List.take_zero List.isEmpty_nil List.isEmpty_cons if_true if_false ite_self decide_eq_true_eq beq_self_eq_true Int.toNat_natCast Int.reduceNeg Int.reduceLE Int.reduceLT Int.reduceToNat Int.reduceEq Int.reduceBEq Option.map_some Option.map_none Option.toList_some Option.toList_none
attribute [go_sem ↓] reduceIte
theorem VU (f : St → FT) (k o r : List Bool) (n : Nat) (s : St) : Cg f k o r (n + 1) s = GI (Cg f k o r n) (GL k o r (f s)) := rfl
theorem dQ {α : Type} (f : α → AV) (xs : List α) (e : α) {i : Nat} (h : i < xs.length) : (xs.map f).getD i .any = f (xs.getD i e) := by
 simp [List.getD_eq_getElem?_getD, List.getElem?_map, List.getElem?_eq_getElem h]
attribute [go_sem] List.length_map List.length_append List.length_set List.length_replicate List.length_drop List.length_take
end Go.Proofs.YthdmeanbdohehaaGreatDoor
