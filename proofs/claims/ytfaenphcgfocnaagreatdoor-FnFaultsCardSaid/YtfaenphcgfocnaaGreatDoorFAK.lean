/- Codes and contracts of the functions that FA reaches, and that their typed forms say what they do. No condition. -/
import Derived.Test.YtfaenphcgfocnaaGreatDoorFAKa
import Derived.Test.YtfaenphcgfocnaaGreatDoorRows
import Derived.WalkKit
namespace Go.Proofs.YtfaenphcgfocnaaGreatDoor
open Go Go.RowKit
set_option linter.unusedVariables false
set_option linter.unusedSimpArgs false
set_option maxRecDepth 10000
def cA:IR:=.seq (.region false [ VO 18 26 (.bin false .lss (.v 17) (.v 16))]) (.seq (.cond (.v 18) (.skip) (.exit 2)) (.seq (.block 3 (.seq (.region false [ PM 27 17,PO 28 (.ixAddr 5 (.v 15) (.v 17)),PO 29 (.load true 5 (.s 0)),VO 10 13 (.alloc (.agg [.int .i64 (0),.str [],.str [],.int .i64 (0),.bool false])),VS 9 12 2,⟨.no,0,none,.store 5 (.v 10) (.s 0)⟩]) (.seq (.test false [ PO 30 (.fldAddr 2 (.v 10)),PO 31 (.load false 1 (.s 0)),PM 32 6,PO 33 (.bin false .neq (.s 1) (.s 0))] (.s 0) (.exit 3) (.skip)) (.seq (.region false [ PM 34 8,PO 35 (.bin false .add (.s 0) (I6
 1)),VS 8 11 0]) (.test false [ PM 36 1,PM 37 9,PO 38 (.call 44 [(.s 1),(.s 0)])] (.s 0) (.region false [ PM 39 7,PO 40 (.bin false .add (.s 0) (I6 1)),VS 7 10 0]) (.skip)))))) (.region false [ PO 41 (.bin false .add (.v 17) (I6 1)),VS 17 25 0])))
def Py:List Bool:=[true,true,false,false,true,true,true,true,true,false,false,true,true,true,false,true,true,true,false]
def Px:List Bool:=[true,true,false,false,true,true,false,true,true,false,false,true,true,true,false,false,false,false,false]
def Pw:List Bool:=[false,false,true,true,false,false,false,false,false,false,false,false,false,false,false,false,false,false,false]
def cB:IR:=.seq (.region false [ VO 14 20 (.bin false .lss (.v 13) (.v 12))]) (.seq (.cond (.v 14) (.skip) (.exit 0)) (.seq (.block 1 (.seq (.region false [ PO 21 (.ixAddr 1 (.v 11) (.v 13)),PO 22 (.load false 1 (.s 0)),VS 6 9 0]) (.seq (.region false [ VO 7 10 (.mov (I6 0)),VO 8 11 (.mov (I6 0))]) (.seq (.seq (.region false [ VO 15 23 (.mov (.v 0)),VO 16 24 (.len false (.v 15)),VO 17 25 (.mov (I6 0))]) (.block 2 (.loop Py Px Pw cA))) (.region false [ PM 42 5,PM 43 7,PM 44 8,PO 45 (.call 97 [(.s 1),(.s 0)]),PO 46 (.mkSl 2 (.agg [.int .i64 (0),.int .i64
 (0)]) 1 [(0,(.s 0))]),PO 47 (.app 2 16 (.agg [.int .i64 (0),.int .i64 (0)]) (.s 4) (.s 0)),VS 5 7 0]))))) (.region false [ PO 48 (.bin false .add (.v 13) (I6 1)),VS 13 19 0])))
def Uz:List Bool:=[true,true,false,false,true,true,false,false,false,false,false,true,true,true,false,false,false,false,false]
def Uy:List Bool:=[false,false,false,false,true,true,false,false,false,false,false,false,false,false,false,false,false,false,false]
def Ux:List Bool:=[false,false,true,true,false,false,false,false,false,false,false,false,false,false,false,false,false,false,false]
def ABq:List Nat:=[0,1,4,5,6,7,9,10,11,12,13,17,18,19,20,23,24,25,26]
def tG:CI:=⟨2,19,.seq (.region false [ VO 2 4 (.newnil 1),VO 3 5 (.newnil 2)]) (.seq (.region false [ PM 14 0,PO 15 (.call 95 [(.s 0),(.c (.fn (.func 96) [] []))]),PO 16 (.mkSl 2 (.agg [.int .i64 (0),.int .i64 (0)]) 0 []),VS 4 6 1,VS 5 7 0]) (.seq (.seq (.region false [ VO 11 17 (.mov (.v 4)),VO 12 18 (.len false (.v 11)),VO 13 19 (.mov (I6 0))]) (.block 0 (.loop Uz Uy Ux cB))) (.seq (.region false [ PM 49 4,PM 50 5,VS 2 4 1,VS 3 5 0]) (.ret)))),[.t 2,.t 3]⟩
noncomputable def ZE:List (Nat × Ax):=[(95,ni),(44,fN),(97,aZ)]
theorem mq:AR ZE 95 = some ni:=rfl
theorem mr:AR ZE 44 = some fN:=rfl
theorem mp:AR ZE 97 = some aZ:=rfl
noncomputable def TV:Ax:=Di ZE tG [.bor,.bor]
theorem zC:AU Tryz.prog 47 TV:=AM _ rfl (AG s_98 (AG AFT (AG AGF AP))) (by kernel_rfl:Af Tryz.prog 47 tG ABq = true)
theorem AHW:TV.modes = [.bor,.bor]:=rfl
theorem AEP:TV.flat = true:=rfl
attribute [go_sem] AHW AEP mq mr mp
def NQ (list:List AA) (faults:List AJ) (names:List (List UInt8)) (shares:List Ac) (name:List UInt8) (t18:Int) (t19:Int) (t23:List AA) (t24:Int):(Int × Int × Int) → St
 | (faulty,all,t25) => ⟨[.sl 5 (List.map AE list),.sl 2 (List.map Ae faults),.any,.any,.own 3200000,.own 3200032,.str name,.int .i64 faulty,.int .i64 all,.any,.any,.own 3200000,.int .i64 t18,.int .i64 t19,.any,.sl 5 (List.map AE t23),.int .i64 t24,.int .i64 t25,.any],[],[(3200000,⟨1,List.map AV.str names⟩),(3200032,⟨2,List.map BQ shares⟩)],true⟩
def NN (list:List AA) (faults:List AJ) (names:List (List UInt8)) (shares:List Ac) (name:List UInt8) (t18:Int) (t19:Int) (t23:List AA) (t24:Int) (y:Int × Int):EB:=(.exit 2,⟨[.sl 5 (List.map AE list),.sl 2 (List.map Ae faults),.any,.any,.own 3200000,.own 3200032,.any,.int .i64 y.1,.int .i64 y.2,.any,.any,.own 3200000,.int .i64 t18,.int .i64 t19,.any,.any,.any,.any,.any],[],[(3200000,⟨1,List.map AV.str names⟩),(3200032,⟨2,List.map BQ shares⟩)],true⟩)
set_option maxHeartbeats 64000000 in
attribute [local go_sem] tG NQ NN cA Py Px Pw in
theorem MD {list:List AA} {faults:List AJ} {names:List (List UInt8)} {shares:List Ac} {name:List UInt8} {t18:Int} {t19:Int} {t23:List AA} {t24:Int} {sgm_:Int × Int × Int} {rho_:Int × Int} (h:AL (Cc list faults names shares name t18 t19 t23 t24) sgm_ = some rho_):∃ L0,∀ L,L0 ≤ L → Bk (Az (AR ZE) L cA) Py Px Pw L (NQ list faults names shares name t18 t19 t23 t24 sgm_) = NN list faults names shares name t18 t19 t23 t24 rho_:=by
 refine As (E:=NQ list faults names shares name t18 t19 t23 t24) (R:=NN list faults names shares name t18 t19 t23 t24) (fun y => by first | (intro c; cases c) | (rcases y with y | y <;> (intro c; cases c)) | (rcases y with y | y | y <;> (intro c; cases c))) ?_ h
 clear h
 rintro ⟨faulty,all,t25⟩ o_ h
 dsimp only [Cc] at h
 rcases AD h with ⟨z4,h⟩ | ⟨z4,h⟩
 ·try simp only [go_sem,n1,n2,n3,n4] at z4
  all_goals
  obtain ⟨z5,h⟩:=AF h
  have lz5:=Au z5
  have xz5:=AK AE t23 lz5
  try simp only [go_sem] at lz5
  try simp only [go_sem] at xz5
  try simp only [go_sem,n1,n2,n3,n4,z4] at z5
  all_goals
  rcases AD h with ⟨z6,h⟩ | ⟨z6,h⟩
  ·try simp only [go_sem,n1,n2,n3,n4,z4,z5] at z6
   all_goals
   obtain rfl:=AB h
   refine ⟨0,fun L hL => ?_⟩
   simp only [go_sem,z4,z5,lz5,xz5,z6]
  ·try simp only [go_sem,n1,n2,n3,n4,z4,z5] at z6
   all_goals
   obtain ⟨y_7,z7,h⟩:=AC h
   have fz7:=zS z7
   try simp only [go_sem,z4,z5,z6] at fz7
   rcases AD h with ⟨z8,h⟩ | ⟨z8,h⟩
   all_goals
   try simp only [go_sem,n1,n2,n3,n4,z4,z5,z6] at z8
   all_goals
   obtain rfl:=AB h
   refine ⟨0,fun L hL => ?_⟩
   simp only [go_sem,z4,z5,lz5,xz5,z6,fz7,z8]
 ·try simp only [go_sem,n1,n2,n3,n4] at z4
  all_goals
  obtain rfl:=AB h
  refine ⟨0,fun L hL => ?_⟩
  simp only [go_sem,z4]
def Rr (list:List AA) (faults:List AJ) (names:List (List UInt8)) (t18:Int):((List Ac) × Int) → St
 | (shares,t19) => ⟨[.sl 5 (List.map AE list),.sl 2 (List.map Ae faults),.any,.any,.own 3200000,.own 3200032,.any,.any,.any,.any,.any,.own 3200000,.int .i64 t18,.int .i64 t19,.any,.any,.any,.any,.any],[],[(3200000,⟨1,List.map AV.str names⟩),(3200032,⟨2,List.map BQ shares⟩)],true⟩
def RW (list:List AA) (faults:List AJ) (names:List (List UInt8)) (t18:Int) (y:(List Ac)):EB:=(.exit 0,⟨[.any,.any,.any,.any,.own 3200000,.own 3200032,.any,.any,.any,.any,.any,.any,.any,.any,.any,.any,.any,.any,.any],[],[(3200000,⟨1,List.map AV.str names⟩),(3200032,⟨2,List.map BQ y⟩)],true⟩)
set_option maxHeartbeats 64000000 in
attribute [local go_sem] Rr RW cB Uz Uy Ux NQ NN Py Px Pw tG in
theorem ME {list:List AA} {faults:List AJ} {names:List (List UInt8)} {t18:Int} {sgm_:(List Ac) × Int} {rho_:(List Ac)} (h:AL (DQ list faults names t18) sgm_ = some rho_):∃ L0,∀ L,L0 ≤ L → Bk (Az (AR ZE) L cB) Uz Uy Ux L (Rr list faults names t18 sgm_) = RW list faults names t18 rho_:=by
 refine As (E:=Rr list faults names t18) (R:=RW list faults names t18) (fun y => by first | (intro c; cases c) | (rcases y with y | y <;> (intro c; cases c)) | (rcases y with y | y | y <;> (intro c; cases c))) ?_ h
 clear h
 rintro ⟨shares,t19⟩ o_ h
 dsimp only [DQ] at h
 rcases AD h with ⟨z2,h⟩ | ⟨z2,h⟩
 ·try simp only [go_sem,n1,n2,n3,n4] at z2
  all_goals
  obtain ⟨z3,h⟩:=AF h
  have lz3:=Au z3
  have xz3:=AK AV.str names lz3
  try simp only [go_sem] at lz3
  try simp only [go_sem] at xz3
  try simp only [go_sem,n1,n2,n3,n4,z2] at z3
  all_goals
  obtain ⟨y_9,z9,h⟩:=AC h
  obtain ⟨Lz9,ez9⟩:=MD z9
  obtain ⟨y_10,z10,h⟩:=AC h
  have fz10:=ADg z10
  try simp only [go_sem,z2,z3] at fz10
  obtain ⟨z11,h⟩:=AF h
  try simp only [go_sem,n1,n2,n3,n4,z2,z3] at z11
  all_goals
  obtain rfl:=AB h
  refine ⟨Lz9,fun L hL => ?_⟩
  have ez9:=ez9 L (by omega)
  try simp only [go_sem,z2,z3,z11] at ez9
  simp only [go_sem,z2,z3,lz3,xz3,fz10,z11,ez9]
 ·try simp only [go_sem,n1,n2,n3,n4] at z2
  all_goals
  obtain rfl:=AB h
  refine ⟨0,fun L hL => ?_⟩
  simp only [go_sem,z2]
set_option maxHeartbeats 64000000 in
attribute [local go_sem] NQ NN Py Px Pw Rr RW Uz Uy Ux tG in
theorem vE {list:List AA} {faults:List AJ} {y_:(List (List UInt8)) × (List Ac)} (h:ER list faults = some y_):TV.F [.sl 5 (List.map AE list),.sl 2 (List.map Ae faults)] = ⟨true,.tup [.fresh 1 (List.map AV.str y_.1),.fresh 2 (List.map BQ y_.2)],[.any,.any]⟩:=by
 refine Ay (by simp only [Fo,Fu,GQ,List.all_cons,List.all_nil,Bool.and_self,Bx (f:=AV.str) (fun _ => rfl),Bx (f:=BQ) (fun _ => rfl)]) ?_
 dsimp only [ER] at h
 obtain ⟨y_1,z1,h⟩:=AC h
 have fz1:=AHa z1
 try simp only [go_sem] at fz1
 obtain ⟨y_12,z12,h⟩:=AC h
 obtain ⟨Lz12,ez12⟩:=ME z12
 obtain rfl:=AB h
 refine ⟨Lz12,fun L hL => ?_⟩
 have ez12:=ez12 L (by omega)
 try simp only [go_sem] at ez12
 simp only [go_sem,fz1,ez12]
def ACj:List Nat:=[0,1,4,5,6,8]
def xp:CI:=⟨2,6,.seq (.region false [ VO 2 4 (.newnil 2),VO 3 5 (.mov (I6 0))]) (.seq (.seq (.region false [ PM 9 0,PM 10 1,PO 11 (.call 43 [(.s 1),(.s 0)]),VS 4 6 0]) (.test false [ PM 12 4,PO 13 (.bin false .neq (.s 0) (I6 0))] (.s 0) (.seq (.region false [ PM 14 4,VO 2 4 (.newnil 2),VS 3 5 0]) (.ret)) (.skip))) (.seq (.region false [ PM 16 0,PM 17 1,PO 18 (.call 47 [(.s 1),(.s 0)]),PO 15 (.mov (.s 0)),PO 19 (.ext (.s 0) 0),PO 20 (.ext (.s 1) 1),PO 7 (.mov (.s 1)),VS 5 8 1]) (.seq (.region false [ PM 21 5,VS 2 4 0,VO 3 5 (.mov (I6 0))]) (.ret)))),[.t 2,.t 3]⟩
noncomputable def pp:List (Nat × Ax):=[(43,Yr),(47,TV)]
theorem mo:AR pp 43 = some Yr:=rfl
theorem mm:AR pp 47 = some TV:=rfl
noncomputable def aY:Ax:=Di pp xp [.bor,.bor]
theorem AGE:AU Tryz.prog 11 aY:=AM _ rfl (AG AAN (AG zC AP)) (by kernel_rfl:Af Tryz.prog 11 xp ACj = true)
theorem AHV:aY.modes = [.bor,.bor]:=rfl
theorem AEO:aY.flat = true:=rfl
attribute [go_sem] AHV AEO mo mm
theorem ADf {list:List AA} {faults:List AJ} {y_:(List Ac) × Int} (h:Fl list faults = some y_):aY.F [.sl 5 (List.map AE list),.sl 2 (List.map Ae faults)] = ⟨true,.tup [.fresh 2 (List.map BQ y_.1),.int .i64 y_.2],[.any,.any]⟩:=by
 refine Ay (by simp only [Fo,Fu,GQ,List.all_cons,List.all_nil,Bool.and_self,Bx (f:=BQ) (fun _ => rfl)]) ?_
 dsimp only [Fl] at h
 obtain ⟨y_1,z1,h⟩:=AC h
 have fz1:=ul z1
 try simp only [go_sem] at fz1
 rcases AD h with ⟨z2,h⟩ | ⟨z2,h⟩
 ·try simp only [go_sem,n1,n2,n3,n4] at z2
  all_goals
  obtain rfl:=AB h
  refine ⟨0,fun L hL => ?_⟩
  simp only [go_sem,xp,fz1,z2]
 ·try simp only [go_sem,n1,n2,n3,n4] at z2
  all_goals
  obtain ⟨y_3,z3,h⟩:=AC h
  have fz3:=vE z3
  try simp only [go_sem,z2] at fz3
  obtain rfl:=AB h
  refine ⟨0,fun L hL => ?_⟩
  simp only [go_sem,xp,fz1,z2,fz3]
def xx:List Nat:=[0,2]
def tf:CI:=⟨1,2,.seq (.region false [ VO 1 2 (.mov (I6 0))]) (.seq (.test false [ PM 3 0,PO 4 (.bin false .lss (.s 0) (I6 0))] (.s 0) (.seq (.region false [ PM 5 0,PO 6 (.un .neg (.s 0)),VS 1 2 0]) (.ret)) (.skip)) (.seq (.region false [ PM 7 0,VS 1 2 0]) (.ret))),[.t 1]⟩
noncomputable def AFH:List (Nat × Ax):=[]
noncomputable def aX:Ax:=Di AFH tf [.bor]
theorem AGD:AU Tryz.prog 100 aX:=AM _ rfl AP (by kernel_rfl:Af Tryz.prog 100 tf xx = true)
theorem AHU:aX.modes = [.bor]:=rfl
theorem AEN:aX.flat = true:=rfl
attribute [go_sem] AHU AEN
theorem ADe {n:Int} {y_:Int} (h:If n = some y_):aX.F [.int .i64 n] = ⟨true,.int .i64 y_,[.any]⟩:=by
 refine Ay rfl ?_
 dsimp only [If] at h
 rcases AD h with ⟨z1,h⟩ | ⟨z1,h⟩
 all_goals
 try simp only [go_sem,n1,n2,n3,n4] at z1
 all_goals
 obtain rfl:=AB h
 refine ⟨0,fun L hL => ?_⟩
 simp only [go_sem,tf,z1]
def bV:IR:=.seq (.test false [ PM 6 1,PO 7 (.bin false .neq (.s 0) (I6 0))] (.s 0) (.skip) (.exit 0)) (.block 1 (.seq (.region false [ PM 8 0,PM 9 1,PO 10 (.bin false .rem (.s 1) (.s 0)),VS 3 5 0]) (.seq (.region false [ PM 11 1,VS 0 0 0]) (.region false [ PM 12 3,VS 1 1 0]))))
def Tt:List Bool:=[true,true,false,false]
def Ts:List Bool:=[true,false,false,false]
def Tr:List Bool:=[false,false,true,false]
def AAa:List Nat:=[0,1,4,5]
def wP:CI:=⟨2,4,.seq (.region false [ VO 2 4 (.mov (I6 0))]) (.seq (.block 0 (.loop Tt Ts Tr bV)) (.seq (.region false [ PM 13 0,VS 2 4 0]) (.ret))),[.t 2]⟩
noncomputable def yo:List (Nat × Ax):=[]
noncomputable def aW:Ax:=Di yo wP [.bor,.bor]
theorem AGC:AU Tryz.prog 99 aW:=AM _ rfl AP (by kernel_rfl:Af Tryz.prog 99 wP AAa = true)
theorem AHT:aW.modes = [.bor,.bor]:=rfl
theorem AEM:aW.flat = true:=rfl
attribute [go_sem] AHT AEM
def Rq :(Int × Int) → St
 | (a,b) => ⟨[.int .i64 a,.int .i64 b,.any,.any],[],[],true⟩
def RU  (y:Int):EB:=(.exit 0,⟨[.int .i64 y,.any,.any,.any],[],[],true⟩)
attribute [local go_sem] wP Rq RU bV Tt Ts Tr in
theorem PY  {sgm_:Int × Int} {rho_:Int} (h:AL (Bw) sgm_ = some rho_):∃ L0,∀ L,L0 ≤ L → Bk (Az (AR yo) L bV) Tt Ts Tr L (Rq sgm_) = RU rho_:=by
 refine As (E:=Rq) (R:=RU) (fun y => by first | (intro c; cases c) | (rcases y with y | y <;> (intro c; cases c)) | (rcases y with y | y | y <;> (intro c; cases c))) ?_ h
 clear h
 rintro ⟨a,b⟩ o_ h
 dsimp only [Bw] at h
 rcases AD h with ⟨z1,h⟩ | ⟨z1,h⟩
 ·try simp only [go_sem,n1,n2,n3,n4] at z1
  all_goals
  obtain ⟨z2,h⟩:=AF h
  try simp only [go_sem,n1,n2,n3,n4,z1] at z2
  all_goals
  obtain rfl:=AB h
  refine ⟨0,fun L hL => ?_⟩
  simp only [go_sem,z1,z2]
 ·try simp only [go_sem,n1,n2,n3,n4] at z1
  all_goals
  obtain rfl:=AB h
  refine ⟨0,fun L hL => ?_⟩
  simp only [go_sem,z1]
attribute [local go_sem] Rq RU Tt Ts Tr wP in
theorem ADd {a:Int} {b:Int} {y_:Int} (h:Kg a b = some y_):aW.F [.int .i64 a,.int .i64 b] = ⟨true,.int .i64 y_,[.any,.any]⟩:=by
 refine Ay rfl ?_
 dsimp only [Kg] at h
 obtain ⟨y_3,z3,h⟩:=AC h
 obtain ⟨Lz3,ez3⟩:=PY z3
 obtain rfl:=AB h
 refine ⟨Lz3,fun L hL => ?_⟩
 have ez3:=ez3 L (by omega)
 try simp only [go_sem] at ez3
 simp only [go_sem,ez3]
def ABn:List Nat:=[0,1,4,5]
def ABo:CI:=⟨2,4,.seq (.region false [ VO 2 4 (.alloc (.agg [.int .i64 (0),.int .i64 (0)]))]) (.seq (.region false [ PM 6 0,PO 7 (.call 100 [(.s 0)]),PM 8 1,PO 9 (.call 99 [(.s 1),(.s 0)]),VS 3 5 0]) (.seq (.anyo 7 [ SO 0 10 (.mov (.v 0)),SO 1 11 (.mov (.v 3)),SO 2 12 (.bin false .quo (.s 0) (.s 1)),SO 3 13 (.mov (.v 1)),SO 4 14 (.mov (.v 3)),SO 5 15 (.bin false .quo (.s 3) (.s 4)),SO 6 16 (.pur (.build [.int .i64 (0),.int .i64 (0)] [(0,1,(.s 2)),(1,1,(.s 5))])),⟨.no,0,none,.store 2 (.v 2) (.s 6)⟩] [] .skip) (.ret))),[.cell true 2 2]⟩
noncomputable def po:List (Nat × Ax):=[(100,aX),(99,aW)]
theorem gi:AR po 100 = some aX:=rfl
theorem ml:AR po 99 = some aW:=rfl
noncomputable def aV:Ax:=OE po ABo [.bor,.bor]
theorem AGB:AU Tryz.prog 49 aV:=Bb _ (AG AGD (AG AGC AP)) (by kernel_rfl:Af Tryz.prog 49 ABo ABn = true)
theorem AHS:aV.modes = [.bor,.bor]:=rfl
theorem AEL:aV.flat = false:=rfl
attribute [go_sem] AHS AEL gi ml
theorem ADc {num:Int} {den:Int} {y_:Ac} (h:Ig num den = some y_):aV.F [.int .i64 num,.int .i64 den] = ⟨true,BQ y_,[.any,.any]⟩:=by
 refine FC ?_
 dsimp only [Ig] at h
 obtain ⟨y_1,z1,h⟩:=AC h
 have fz1:=ADe z1
 try simp only [go_sem] at fz1
 obtain ⟨y_2,z2,h⟩:=AC h
 have fz2:=ADd z2
 try simp only [go_sem] at fz2
 obtain ⟨z3,h⟩:=AF h
 try simp only [go_sem,n1,n2,n3,n4] at z3
 all_goals
 obtain rfl:=AB h
 refine ⟨0,fun L hL => ?_⟩
 simp only [go_sem,ABo,fz1,fz2,z3]
def Xd:IR:=.seq (.test false [ PM 9 3,PO 10 (.bin false .gtr (.s 0) (I6 0)),PO 11 (.mov (.s 0)),⟨.push,12,(some ((.s 0),true)),.mov (.v 0)⟩,⟨.push,13,(some ((.s 1),true)),.mov (.v 3)⟩,⟨.push,14,(some ((.s 2),true)),.bin false .sub (.s 0) (I6 1)⟩,⟨.push,15,(some ((.s 3),true)),.ixAddr 1 (.s 2) (.s 0)⟩,⟨.push,16,(some ((.s 4),true)),.load false 1 (.s 0)⟩,⟨.push,17,(some ((.s 5),true)),.mov (.v 1)⟩,⟨.push,18,(some ((.s 6),true)),.bin false .gtr (.s 1) (.s 0)⟩,PO 19 (.pick (.s 7) (.s 0) (.c (.bool false)))] (.s 0) (.skip) (.exit 0)) (.block 1 (.region
 false [ PM 20 3,PO 21 (.bin false .sub (.s 0) (I6 1)),VS 3 5 0]))
def QE:List Bool:=[true,true,false,true,false]
def QD:List Bool:=[true,true,false,true,false]
def QC:List Bool:=[false,false,true,false,false]
def xO:List Nat:=[0,1,4,5,6]
def jY:CI:=⟨2,5,.seq (.region false [ VO 2 4 (.newnil 1)]) (.seq (.region false [ PM 7 0,PO 8 (.len false (.s 0)),VS 3 5 0]) (.seq (.block 0 (.loop QE QD QC Xd)) (.seq (.test false [ PM 22 3,PO 23 (.bin false .gtr (.s 0) (I6 0)),PO 24 (.mov (.s 0)),⟨.push,25,(some ((.s 0),true)),.mov (.v 0)⟩,⟨.push,26,(some ((.s 1),true)),.mov (.v 3)⟩,⟨.push,27,(some ((.s 2),true)),.bin false .sub (.s 0) (I6 1)⟩,⟨.push,28,(some ((.s 3),true)),.ixAddr 1 (.s 2) (.s 0)⟩,⟨.push,29,(some ((.s 4),true)),.load false 1 (.s 0)⟩,⟨.push,30,(some ((.s 5),
 true)),.mov (.v 1)⟩,⟨.push,31,(some ((.s 6),true)),.bin false .eql (.s 1) (.s 0)⟩,PO 32 (.pick (.s 7) (.s 0) (.c (.bool false)))] (.s 0) (.seq (.region false [ PM 33 0,VS 2 4 0]) (.ret)) (.skip)) (.seq (.region false [ PO 34 (.mkSl 1 (.str []) 0 []),PM 35 0,PM 36 3,PO 37 (.slice 1 (.s 1) none (some (.s 0))),PO 38 (.app 1 16 (.str []) (.s 3) (.s 0)),VS 4 6 0]) (.seq (.region false [ PM 39 4,PM 40 1,PO 41 (.mkSl 1 (.str []) 1 [(0,(.s 0))]),PO 42 (.app 1 16 (.str []) (.s 2) (.s 0)),VS 4 6 0]) (.seq (.region false [ PM 43 4,PM 44 0,PM 45 3,PO 46 (.slice 1 (.s 1) (some (.s 0))
 none),PO 47 (.app 1 16 (.str []) (.s 3) (.s 0)),VS 2 4 0]) (.ret))))))),[.t 2]⟩
noncomputable def yn:List (Nat × Ax):=[]
noncomputable def aU:Ax:=mkZ yn jY [.bor,.bor]
theorem AGA:AU Tryz.prog 133 aU:=kj _ AP (by kernel_rfl:Af Tryz.prog 133 jY xO = true)
theorem AHR:aU.modes = [.bor,.bor]:=rfl
theorem AEK:aU.flat = false:=rfl
attribute [go_sem] AHR AEK
def Rp (list:List (List UInt8)) (name:List UInt8):Int → St
 | k => ⟨[.sl 1 (List.map AV.str list),.str name,.any,.int .i64 k,.any],[],[],true⟩
def RT (list:List (List UInt8)) (name:List UInt8) (y:Int):EB:=(.exit 0,⟨[.sl 1 (List.map AV.str list),.str name,.any,.int .i64 y,.any],[],[],true⟩)
attribute [local go_sem] jY Rp RT Xd QE QD QC in
theorem MZ {list:List (List UInt8)} {name:List UInt8} {sgm_:Int} {rho_:Int} (h:AL (Ct list name) sgm_ = some rho_):∃ L0,∀ L,L0 ≤ L → Bk (Az (AR yn) L Xd) QE QD QC L (Rp list name sgm_) = RT list name rho_:=by
 refine As (E:=Rp list name) (R:=RT list name) (fun y => by first | (intro c; cases c) | (rcases y with y | y <;> (intro c; cases c)) | (rcases y with y | y | y <;> (intro c; cases c))) ?_ h
 clear h
 intro k o_ h
 dsimp only [Ct] at h
 obtain ⟨z1,h⟩:=AF h
 rcases Ab z1 with ⟨gz1,z1⟩ | gz1
 ·try simp only [go_sem,n1,n2,n3,n4] at gz1
  all_goals
  have lz1:=Au z1
  have xz1:=AK AV.str list lz1
  try simp only [go_sem] at lz1
  try simp only [go_sem] at xz1
  try simp only [go_sem,n1,n2,n3,n4,gz1] at z1
  all_goals
  rcases AD h with ⟨z2,h⟩ | ⟨z2,h⟩
  all_goals
  try simp only [go_sem,n1,n2,n3,n4,gz1,z1] at z2
  all_goals
  obtain rfl:=AB h
  refine ⟨0,fun L hL => ?_⟩
  simp only [go_sem,gz1,z1,lz1,xz1,z2]
 ·try simp only [go_sem,n1,n2,n3,n4] at gz1
  all_goals
  rcases AD h with ⟨z2,h⟩ | ⟨z2,h⟩
  ·try simp only [go_sem,n1,n2,n3,n4,gz1] at z2
   all_goals
   (simp_all)
  ·try simp only [go_sem,n1,n2,n3,n4,gz1] at z2
   all_goals
   obtain rfl:=AB h
   refine ⟨0,fun L hL => ?_⟩
   simp only [go_sem,gz1,z2]
attribute [local go_sem] Rp RT QE QD QC jY in
theorem vD {list:List (List UInt8)} {name:List UInt8} {y_:(List (List UInt8))} (h:Em list name = some y_):aU.F [.sl 1 (List.map AV.str list),.str name] = ⟨true,.sl 1 (List.map AV.str y_),[.any,.any]⟩:=by
 refine AGM ?_
 dsimp only [Em] at h
 obtain ⟨y_3,z3,h⟩:=AC h
 obtain ⟨Lz3,ez3⟩:=MZ z3
 obtain ⟨z4,h⟩:=AF h
 rcases Ab z4 with ⟨gz4,z4⟩ | gz4
 ·try simp only [go_sem,n1,n2,n3,n4] at gz4
  all_goals
  have lz4:=Au z4
  have xz4:=AK AV.str list lz4
  try simp only [go_sem] at lz4
  try simp only [go_sem] at xz4
  try simp only [go_sem,n1,n2,n3,n4,gz4] at z4
  all_goals
  rcases AD h with ⟨z5,h⟩ | ⟨z5,h⟩
  ·try simp only [go_sem,n1,n2,n3,n4,gz4,z4] at z5
   all_goals
   obtain rfl:=AB h
   refine ⟨Lz3,fun L hL => ?_⟩
   have ez3:=ez3 L (by omega)
   try simp only [go_sem,gz4,z4,z5] at ez3
   simp only [go_sem,gz4,z4,lz4,xz4,z5,ez3]
  ·try simp only [go_sem,n1,n2,n3,n4,gz4,z4] at z5
   all_goals
   obtain ⟨z6,h⟩:=AF h
   try simp only [go_sem,n1,n2,n3,n4,gz4,z4,z5] at z6
   all_goals
   obtain ⟨z7,h⟩:=AF h
   try simp only [go_sem,n1,n2,n3,n4,gz4,z4,z5,z6] at z7
   all_goals
   obtain ⟨z8,h⟩:=AF h
   try simp only [go_sem,n1,n2,n3,n4,gz4,z4,z5,z6,z7] at z8
   all_goals
   obtain ⟨z9,h⟩:=AF h
   try simp only [go_sem,n1,n2,n3,n4,gz4,z4,z5,z6,z7,z8] at z9
   all_goals
   obtain ⟨z10,h⟩:=AF h
   try simp only [go_sem,n1,n2,n3,n4,gz4,z4,z5,z6,z7,z8,z9] at z10
   all_goals
   obtain rfl:=AB h
   refine ⟨Lz3,fun L hL => ?_⟩
   have ez3:=ez3 L (by omega)
   try simp only [go_sem,gz4,z4,z5,z6,z7,z8,z9,z10] at ez3
   simp only [go_sem,gz4,z4,lz4,xz4,z5,z6,z7,z8,z9,z10,ez3]
 ·try simp only [go_sem,n1,n2,n3,n4] at gz4
  all_goals
  rcases AD h with ⟨z5,h⟩ | ⟨z5,h⟩
  ·try simp only [go_sem,n1,n2,n3,n4,gz4] at z5
   all_goals
   (simp_all)
  ·try simp only [go_sem,n1,n2,n3,n4,gz4] at z5
   all_goals
   obtain ⟨z6,h⟩:=AF h
   try simp only [go_sem,n1,n2,n3,n4,gz4,z5] at z6
   all_goals
   obtain ⟨z7,h⟩:=AF h
   try simp only [go_sem,n1,n2,n3,n4,gz4,z5,z6] at z7
   all_goals
   obtain ⟨z8,h⟩:=AF h
   try simp only [go_sem,n1,n2,n3,n4,gz4,z5,z6,z7] at z8
   all_goals
   obtain ⟨z9,h⟩:=AF h
   try simp only [go_sem,n1,n2,n3,n4,gz4,z5,z6,z7,z8] at z9
   all_goals
   obtain ⟨z10,h⟩:=AF h
   try simp only [go_sem,n1,n2,n3,n4,gz4,z5,z6,z7,z8,z9] at z10
   all_goals
   obtain rfl:=AB h
   refine ⟨Lz3,fun L hL => ?_⟩
   have ez3:=ez3 L (by omega)
   try simp only [go_sem,gz4,z5,z6,z7,z8,z9,z10] at ez3
   simp only [go_sem,gz4,z5,z6,z7,z8,z9,z10,ez3]
def bW:IR:=.seq (.test false [ PM 8 4,PM 9 0,PO 10 (.len false (.s 0)),PO 11 (.bin false .lss (.s 2) (.s 0))] (.s 0) (.skip) (.exit 0)) (.seq (.block 1 (.test false [ PM 14 1] (.s 0) (.region false [ PM 15 3,PM 16 0,PM 17 4,PO 18 (.ixAddr 5 (.s 1) (.s 0)),PO 19 (.fldAddr 1 (.s 0)),PO 20 (.load false 1 (.s 0)),PO 21 (.call 133 [(.s 5),(.s 0)]),VS 3 5 0]) (.region false [ PM 22 3,PM 23 0,PM 24 4,PO 25 (.ixAddr 5 (.s 1) (.s 0)),PO 26 (.fldAddr 2 (.s 0)),PO 27 (.load false 1 (.s 0)),PO 28 (.call 133 [(.s 5),(.s 0)]),VS 3 5 0]))) (.region false [ PM 12 4,PO 13 (.bin
 false .add (.s 0) (I6 1)),VS 4 6 0]))
def Tw:List Bool:=[true,true,false,true,true]
def Tv:List Bool:=[false,false,false,true,false]
def Tu:List Bool:=[false,false,true,false,false]
def AAb:List Nat:=[0,1,4,5,6]
def wQ:CI:=⟨2,5,.seq (.region false [ VO 2 4 (.newnil 1)]) (.seq (.region false [ PO 7 (.pur (.mkSl 1 (.str []) 0 [])),VS 3 5 0]) (.seq (.seq (.region false [ VO 4 6 (.mov (I6 0))]) (.block 0 (.loop Tw Tv Tu bW))) (.seq (.region false [ PM 29 3,VS 2 4 0]) (.ret)))),[.t 2]⟩
noncomputable def pn:List (Nat × Ax):=[(133,aU)]
theorem gh:AR pn 133 = some aU:=rfl
noncomputable def aT:Ax:=OE pn wQ [.bor,.bor]
theorem AFz:AU Tryz.prog 98 aT:=Bb _ (AG AGA AP) (by kernel_rfl:Af Tryz.prog 98 wQ AAb = true)
theorem AHQ:aT.modes = [.bor,.bor]:=rfl
theorem AEJ:aT.flat = false:=rfl
attribute [go_sem] AHQ AEJ gh
def Ro (list:List AA) (star:Bool):((List (List UInt8)) × Int) → St
 | (out,i) => ⟨[.sl 5 (List.map AE list),.bool star,.any,.sl 1 (List.map AV.str out),.int .i64 i],[],[],true⟩
def RS (list:List AA) (star:Bool) (y:(List (List UInt8))):EB:=(.exit 0,⟨[.any,.any,.any,.sl 1 (List.map AV.str y),.any],[],[],true⟩)
attribute [local go_sem] wQ Ro RS bW Tw Tv Tu in
theorem Nh {list:List AA} {star:Bool} {sgm_:(List (List UInt8)) × Int} {rho_:(List (List UInt8))} (h:AL (EO list star) sgm_ = some rho_):∃ L0,∀ L,L0 ≤ L → Bk (Az (AR pn) L bW) Tw Tv Tu L (Ro list star sgm_) = RS list star rho_:=by
 refine As (E:=Ro list star) (R:=RS list star) (fun y => by first | (intro c; cases c) | (rcases y with y | y <;> (intro c; cases c)) | (rcases y with y | y | y <;> (intro c; cases c))) ?_ h
 clear h
 rintro ⟨out,i⟩ o_ h
 dsimp only [EO] at h
 rcases AD h with ⟨z1,h⟩ | ⟨z1,h⟩
 ·try simp only [go_sem,n1,n2,n3,n4] at z1
  all_goals
  rcases AD h with ⟨z2,h⟩ | ⟨z2,h⟩
  ·try simp only [go_sem,n1,n2,n3,n4,z1] at z2
   all_goals
   obtain ⟨z3,h⟩:=AF h
   have lz3:=Au z3
   have xz3:=AK AE list lz3
   try simp only [go_sem] at lz3
   try simp only [go_sem] at xz3
   try simp only [go_sem,n1,n2,n3,n4,z1,z2] at z3
   all_goals
   obtain ⟨y_4,z4,h⟩:=AC h
   have fz4:=vD z4
   try simp only [go_sem,z1,z2,z3] at fz4
   obtain rfl:=AB h
   refine ⟨0,fun L hL => ?_⟩
   simp only [go_sem,z1,z2,z3,lz3,xz3,fz4]
  ·try simp only [go_sem,n1,n2,n3,n4,z1] at z2
   all_goals
   obtain ⟨z5,h⟩:=AF h
   have lz5:=Au z5
   have xz5:=AK AE list lz5
   try simp only [go_sem] at lz5
   try simp only [go_sem] at xz5
   try simp only [go_sem,n1,n2,n3,n4,z1,z2] at z5
   all_goals
   obtain ⟨y_6,z6,h⟩:=AC h
   have fz6:=vD z6
   try simp only [go_sem,z1,z2,z5] at fz6
   obtain rfl:=AB h
   refine ⟨0,fun L hL => ?_⟩
   simp only [go_sem,z1,z2,z5,lz5,xz5,fz6]
 ·try simp only [go_sem,n1,n2,n3,n4] at z1
  all_goals
  obtain rfl:=AB h
  refine ⟨0,fun L hL => ?_⟩
  simp only [go_sem,z1]
attribute [local go_sem] Ro RS Tw Tv Tu wQ in
theorem ADb {list:List AA} {star:Bool} {y_:(List (List UInt8))} (h:GS list star = some y_):aT.F [.sl 5 (List.map AE list),.bool star] = ⟨true,.sl 1 (List.map AV.str y_),[.any,.any]⟩:=by
 refine FC ?_
 dsimp only [GS] at h
 obtain ⟨y_7,z7,h⟩:=AC h
 obtain ⟨Lz7,ez7⟩:=Nh z7
 obtain rfl:=AB h
 refine ⟨Lz7,fun L hL => ?_⟩
 have ez7:=ez7 L (by omega)
 try simp only [go_sem] at ez7
 simp only [go_sem,ez7]
def bt:IR:=.seq (.test false [ PM 6 3,PM 7 0,PO 8 (.len false (.s 0)),PO 9 (.bin false .lss (.s 2) (.s 0))] (.s 0) (.skip) (.exit 0)) (.seq (.block 1 (.test false [ PM 12 0,PM 13 3,PO 14 (.ixAddr 1 (.s 1) (.s 0)),PO 15 (.load false 1 (.s 0)),PM 16 1,PO 17 (.bin false .eql (.s 1) (.s 0))] (.s 0) (.seq (.region false [ PM 18 3,VS 2 4 0]) (.ret)) (.skip))) (.region false [ PM 10 3,PO 11 (.bin false .add (.s 0) (I6 1)),VS 3 5 0]))
def Uk:List Bool:=[true,true,false,true]
def Uj:List Bool:=[false,false,false,false]
def Ui:List Bool:=[false,false,true,false]
def ABb:List Nat:=[0,1,4,5]
def wi:CI:=⟨2,4,.seq (.region false [ VO 2 4 (.mov (I6 0))]) (.seq (.seq (.region false [ VO 3 5 (.mov (I6 0))]) (.block 0 (.loop Uk Uj Ui bt))) (.seq (.region false [ VO 2 4 (.mov (.c (.int .i64 (-1))))]) (.ret))),[.t 2]⟩
noncomputable def ym:List (Nat × Ax):=[]
noncomputable def TU:Ax:=Di ym wi [.bor,.bor]
theorem zB:AU Tryz.prog 60 TU:=AM _ rfl AP (by kernel_rfl:Af Tryz.prog 60 wi ABb = true)
theorem AHP:TU.modes = [.bor,.bor]:=rfl
theorem AEI:TU.flat = true:=rfl
attribute [go_sem] AHP AEI
def Rn (list:List (List UInt8)) (name:List UInt8):Int → St
 | i => ⟨[.sl 1 (List.map AV.str list),.str name,.any,.int .i64 i],[],[],true⟩
def RR (list:List (List UInt8)) (name:List UInt8):(Unit ⊕ Int) → EB
 | .inl y => (.exit 0,⟨[.any,.any,.any,.any],[],[],true⟩)
 | .inr y => (.ret,⟨[.any,.any,.int .i64 y,.any],[],[],true⟩)
attribute [local go_sem] wi Rn RR bt Uk Uj Ui in
theorem OS {list:List (List UInt8)} {name:List UInt8} {sgm_:Int} {rho_:Unit ⊕ Int} (h:AL (Cp list name) sgm_ = some rho_):∃ L0,∀ L,L0 ≤ L → Bk (Az (AR ym) L bt) Uk Uj Ui L (Rn list name sgm_) = RR list name rho_:=by
 refine As (E:=Rn list name) (R:=RR list name) (fun y => by first | (intro c; cases c) | (rcases y with y | y <;> (intro c; cases c)) | (rcases y with y | y | y <;> (intro c; cases c))) ?_ h
 clear h
 intro i o_ h
 dsimp only [Cp] at h
 rcases AD h with ⟨z1,h⟩ | ⟨z1,h⟩
 ·try simp only [go_sem,n1,n2,n3,n4] at z1
  all_goals
  obtain ⟨z2,h⟩:=AF h
  have lz2:=Au z2
  have xz2:=AK AV.str list lz2
  try simp only [go_sem] at lz2
  try simp only [go_sem] at xz2
  try simp only [go_sem,n1,n2,n3,n4,z1] at z2
  all_goals
  rcases AD h with ⟨z3,h⟩ | ⟨z3,h⟩
  all_goals
  try simp only [go_sem,n1,n2,n3,n4,z1,z2] at z3
  all_goals
  obtain rfl:=AB h
  refine ⟨0,fun L hL => ?_⟩
  simp only [go_sem,z1,z2,lz2,xz2,z3]
 ·try simp only [go_sem,n1,n2,n3,n4] at z1
  all_goals
  obtain rfl:=AB h
  refine ⟨0,fun L hL => ?_⟩
  simp only [go_sem,z1]
attribute [local go_sem] Rn RR Uk Uj Ui wi in
theorem vC {list:List (List UInt8)} {name:List UInt8} {y_:Int} (h:Ew list name = some y_):TU.F [.sl 1 (List.map AV.str list),.str name] = ⟨true,.int .i64 y_,[.any,.any]⟩:=by
 refine Ay rfl ?_
 dsimp only [Ew] at h
 obtain ⟨y_4,z4,h⟩:=AC h
 obtain ⟨Lz4,ez4⟩:=OS z4
 rcases y_4 with y_4a | y_4b
 all_goals
 dsimp only at h
 obtain rfl:=AB h
 refine ⟨Lz4,fun L hL => ?_⟩
 have ez4:=ez4 L (by omega)
 try simp only [go_sem] at ez4
 simp only [go_sem,ez4]
def bz:IR:=.seq (.test false [ PM 20 8,PM 21 0,PO 22 (.len false (.s 0)),PO 23 (.bin false .lss (.s 2) (.s 0))] (.s 0) (.skip) (.exit 0)) (.seq (.block 1 (.seq (.region false [ PM 26 5,PM 27 0,PM 28 8,PO 29 (.ixAddr 5 (.s 1) (.s 0)),PO 30 (.fldAddr 2 (.s 0)),PO 31 (.load false 1 (.s 0)),PO 32 (.call 60 [(.s 5),(.s 0)]),VS 9 11 0]) (.seq (.region false [ PM 33 7,PM 34 9,PO 35 (.ixAddr 1 (.s 1) (.s 0)),PO 36 (.load false 1 (.s 0)),PO 37 (.bin false .add (.s 0) (I6 1)),PO 38 (.ixAddr 1 (.s 4) (.s 3)),⟨.no,0,none,.store 1 (.s 0) (.s 1)⟩]) (.test false [ PM 39 1,PM 40
 8,PO 41 (.call 46 [(.s 1),(.s 0)])] (.s 0) (.region false [ PM 42 6,PM 43 9,PO 44 (.ixAddr 1 (.s 1) (.s 0)),PO 45 (.load false 1 (.s 0)),PO 46 (.bin false .add (.s 0) (I6 1)),PO 47 (.ixAddr 1 (.s 4) (.s 3)),⟨.no,0,none,.store 1 (.s 0) (.s 1)⟩]) (.skip))))) (.region false [ PM 24 8,PO 25 (.bin false .add (.s 0) (I6 1)),VS 8 10 0]))
def Uw:List Bool:=[true,true,false,false,false,true,true,true,true,false]
def Uv:List Bool:=[false,false,false,false,false,true,true,true,false,false]
def Uu:List Bool:=[false,false,true,true,true,false,false,false,false,false]
def ABp:List Nat:=[0,1,4,5,6,7,8,9,10,11]
def wm:CI:=⟨2,10,.seq (.region false [ VO 2 4 (.newnil 1),VO 3 5 (.newnil 1),VO 4 6 (.newnil 1)]) (.seq (.region false [ PM 12 0,PO 13 (.call 98 [(.s 0),(.c (.bool false))]),VS 5 7 0]) (.seq (.region false [ PM 14 5,PO 15 (.len false (.s 0)),PO 16 (.make 1 8 (.int .i64 (0)) (.s 0) (.s 0)),VS 6 8 0]) (.seq (.region false [ PM 17 5,PO 18 (.len false (.s 0)),PO 19 (.make 1 8 (.int .i64 (0)) (.s 0) (.s 0)),VS 7 9 0]) (.seq (.seq (.region false [ VO 8 10 (.mov (I6 0))]) (.block 0 (.loop Uw Uv Uu bz))) (.seq (.region false [ PM 48 5,PM 49 6,PM 50 7,VS 2 4 2,
 VS 3 5 1,VS 4 6 0]) (.ret)))))),[.t 2,.t 3,.t 4]⟩
noncomputable def dQ:List (Nat × Ax):=[(98,aT),(60,TU),(46,fM)]
theorem mg:AR dQ 98 = some aT:=rfl
theorem mh:AR dQ 60 = some TU:=rfl
theorem mi:AR dQ 46 = some fM:=rfl
noncomputable def TT:Ax:=OE dQ wm [.bor,.bor]
theorem zA:AU Tryz.prog 48 TT:=Bb _ (AG AFz (AG zB (AG AFS AP))) (by kernel_rfl:Af Tryz.prog 48 wm ABp = true)
theorem AHO:TT.modes = [.bor,.bor]:=rfl
theorem AEH:TT.flat = false:=rfl
attribute [go_sem] AHO AEH mg mh mi
def Rm (list:List AA) (faults:List AJ) (names:List (List UInt8)):((List Int) × (List Int) × Int) → St
 | (bad,all,i) => ⟨[.sl 5 (List.map AE list),.sl 2 (List.map Ae faults),.any,.any,.any,.sl 1 (List.map AV.str names),.own 3200000,.own 3200032,.int .i64 i,.any],[],[(3200000,⟨1,List.map (AV.int .i64) bad⟩),(3200032,⟨1,List.map (AV.int .i64) all⟩)],true⟩
def RQ (list:List AA) (faults:List AJ) (names:List (List UInt8)) (y:(List Int) × (List Int)):EB:=(.exit 0,⟨[.any,.any,.any,.any,.any,.sl 1 (List.map AV.str names),.own 3200000,.own 3200032,.any,.any],[],[(3200000,⟨1,List.map (AV.int .i64) y.1⟩),(3200032,⟨1,List.map (AV.int .i64) y.2⟩)],true⟩)
attribute [local go_sem] wm Rm RQ bz Uw Uv Uu in
theorem Mg {list:List AA} {faults:List AJ} {names:List (List UInt8)} {sgm_:(List Int) × (List Int) × Int} {rho_:(List Int) × (List Int)} (h:AL (DC list faults names) sgm_ = some rho_):∃ L0,∀ L,L0 ≤ L → Bk (Az (AR dQ) L bz) Uw Uv Uu L (Rm list faults names sgm_) = RQ list faults names rho_:=by
 refine As (E:=Rm list faults names) (R:=RQ list faults names) (fun y => by first | (intro c; cases c) | (rcases y with y | y <;> (intro c; cases c)) | (rcases y with y | y | y <;> (intro c; cases c))) ?_ h
 clear h
 rintro ⟨bad,all,i⟩ o_ h
 dsimp only [DC] at h
 rcases AD h with ⟨z3,h⟩ | ⟨z3,h⟩
 ·try simp only [go_sem,n1,n2,n3,n4] at z3
  all_goals
  obtain ⟨z4,h⟩:=AF h
  have lz4:=Au z4
  have xz4:=AK AE list lz4
  try simp only [go_sem] at lz4
  try simp only [go_sem] at xz4
  try simp only [go_sem,n1,n2,n3,n4,z3] at z4
  all_goals
  obtain ⟨y_5,z5,h⟩:=AC h
  have fz5:=vC z5
  try simp only [go_sem,z3,z4] at fz5
  obtain ⟨z6,h⟩:=AF h
  have lz6:=Au z6
  have xz6:=AK (AV.int .i64) all lz6
  try simp only [go_sem] at lz6
  try simp only [go_sem] at xz6
  try simp only [go_sem,n1,n2,n3,n4,z3,z4] at z6
  all_goals
  obtain ⟨y_7,z7,h⟩:=AC h
  have fz7:=zQ z7
  try simp only [go_sem,z3,z4,z6] at fz7
  rcases AD h with ⟨z8,h⟩ | ⟨z8,h⟩
  ·try simp only [go_sem,n1,n2,n3,n4,z3,z4,z6] at z8
   all_goals
   obtain ⟨z9,h⟩:=AF h
   have lz9:=Au z9
   have xz9:=AK (AV.int .i64) bad lz9
   try simp only [go_sem] at lz9
   try simp only [go_sem] at xz9
   try simp only [go_sem,n1,n2,n3,n4,z3,z4,z6,z8] at z9
   all_goals
   obtain rfl:=AB h
   refine ⟨0,fun L hL => ?_⟩
   simp only [go_sem,z3,z4,lz4,xz4,fz5,z6,lz6,xz6,fz7,z8,z9,lz9,xz9]
  ·try simp only [go_sem,n1,n2,n3,n4,z3,z4,z6] at z8
   all_goals
   obtain rfl:=AB h
   refine ⟨0,fun L hL => ?_⟩
   simp only [go_sem,z3,z4,lz4,xz4,fz5,z6,lz6,xz6,fz7,z8]
 ·try simp only [go_sem,n1,n2,n3,n4] at z3
  all_goals
  obtain rfl:=AB h
  refine ⟨0,fun L hL => ?_⟩
  simp only [go_sem,z3]
attribute [local go_sem] Rm RQ Uw Uv Uu wm in
theorem vB {list:List AA} {faults:List AJ} {y_:(List (List UInt8)) × (List Int) × (List Int)} (h:Fe list faults = some y_):TT.F [.sl 5 (List.map AE list),.sl 2 (List.map Ae faults)] = ⟨true,.tup [.sl 1 (List.map AV.str y_.1),.fresh 1 (List.map (AV.int .i64) y_.2.1),.fresh 1 (List.map (AV.int .i64) y_.2.2)],[.any,.any]⟩:=by
 refine FC ?_
 dsimp only [Fe] at h
 obtain ⟨y_1,z1,h⟩:=AC h
 have fz1:=ADb z1
 try simp only [go_sem] at fz1
 obtain ⟨z2,h⟩:=AF h
 try simp only [go_sem,n1,n2,n3,n4] at z2
 all_goals
 obtain ⟨y_10,z10,h⟩:=AC h
 obtain ⟨Lz10,ez10⟩:=Mg z10
 obtain rfl:=AB h
 refine ⟨Lz10,fun L hL => ?_⟩
 have ez10:=ez10 L (by omega)
 try simp only [go_sem,z2] at ez10
 simp only [go_sem,fz1,z2,ez10]
def cP:IR:=.seq (.test false [ PM 26 9,PM 27 5,PO 28 (.len false (.s 0)),PO 29 (.bin false .lss (.s 2) (.s 0))] (.s 0) (.skip) (.exit 0)) (.seq (.block 1 (.anyo 12 [ SO 0 32 (.mov (.v 8)),SO 1 33 (.mov (.v 6)),SO 2 34 (.mov (.v 9)),SO 3 35 (.ixAddr 1 (.s 1) (.s 2)),SO 4 36 (.load false 1 (.s 3)),SO 5 37 (.mov (.v 7)),SO 6 38 (.mov (.v 9)),SO 7 39 (.ixAddr 1 (.s 5) (.s 6)),SO 8 40 (.load false 1 (.s 7)),SO 9 41 (.pur (.call 49 [(.s 4),(.s 8)])),SO 10 42 (.pur (.mkSl 2 (.agg [.int .i64 (0),.int .i64 (0)]) 1 [(0,(.s 9))])),SO 11 43 (.app 2 16 (.agg [.int .i64 (0),.int
 .i64 (0)]) (.s 0) (.s 10)),VS 8 10 11] [] .skip)) (.region false [ PM 30 9,PO 31 (.bin false .add (.s 0) (I6 1)),VS 9 11 0]))
def Vg:List Bool:=[false,false,false,false,false,true,true,true,true,true]
def Vf:List Bool:=[false,false,false,false,false,false,false,false,true,false]
def Ve:List Bool:=[false,false,true,true,false,false,false,false,false,false]
def ACi:List Nat:=[0,1,4,5,6,7,8,9,10,11]
def xd:CI:=⟨2,10,.seq (.region false [ VO 2 4 (.newnil 2),VO 3 5 (.mov (I6 0))]) (.seq (.region false [ PM 12 0,PM 13 1,PO 14 (.call 45 [(.s 1),(.s 0)]),VS 4 6 0]) (.seq (.test false [ PM 15 4,PO 16 (.bin false .neq (.s 0) (I6 0))] (.s 0) (.seq (.region false [ PM 17 4,VO 2 4 (.newnil 2),VS 3 5 0]) (.ret)) (.skip)) (.seq (.region false [ PM 19 0,PM 20 1,PO 21 (.call 48 [(.s 1),(.s 0)]),PO 18 (.mov (.s 0)),PO 22 (.ext (.s 0) 0),PO 23 (.ext (.s 1) 1),PO 24 (.ext (.s 2) 2),VS 5 7 2,VS 6 8 1,VS 7 9 0]) (.seq (.region false [ PO 25 (.mkSl 2 (.agg [.int .i64 (0),.int .i64
 (0)]) 0 []),VS 8 10 0]) (.seq (.seq (.region false [ VO 9 11 (.mov (I6 0))]) (.block 0 (.loop Vg Vf Ve cP))) (.seq (.region false [ PM 44 8,VS 2 4 0,VO 3 5 (.mov (I6 0))]) (.ret))))))),[.t 2,.t 3]⟩
noncomputable def dP:List (Nat × Ax):=[(45,Yq),(48,TT),(49,aV)]
theorem mf:AR dP 45 = some Yq:=rfl
theorem me:AR dP 48 = some TT:=rfl
theorem md:AR dP 49 = some aV:=rfl
noncomputable def aS:Ax:=Di dP xd [.bor,.bor]
theorem AFy:AU Tryz.prog 12 aS:=AM _ rfl (AG AAM (AG zA (AG AGB AP))) (by kernel_rfl:Af Tryz.prog 12 xd ACi = true)
theorem AHN:aS.modes = [.bor,.bor]:=rfl
theorem AEG:aS.flat = true:=rfl
attribute [go_sem] AHN AEG mf me md
def Rl (names:List (List UInt8)) (bad:List Int) (all:List Int):((List Ac) × Int) → St
 | (out,i) => ⟨[.any,.any,.any,.any,.any,.sl 1 (List.map AV.str names),.own 3200000,.own 3200032,.own 3200064,.int .i64 i],[],[(3200000,⟨1,List.map (AV.int .i64) bad⟩),(3200032,⟨1,List.map (AV.int .i64) all⟩),(3200064,⟨2,List.map BQ out⟩)],true⟩
def RP (names:List (List UInt8)) (bad:List Int) (all:List Int) (y:(List Ac)):EB:=(.exit 0,⟨[.any,.any,.any,.any,.any,.any,.any,.any,.own 3200000,.any],[],[(3200000,⟨2,List.map BQ y⟩)],true⟩)
attribute [local go_sem] xd Rl RP cP Vg Vf Ve in
theorem Lo {names:List (List UInt8)} {bad:List Int} {all:List Int} {sgm_:(List Ac) × Int} {rho_:(List Ac)} (h:AL (DN names bad all) sgm_ = some rho_):∃ L0,∀ L,L0 ≤ L → Bk (Az (AR dP) L cP) Vg Vf Ve L (Rl names bad all sgm_) = RP names bad all rho_:=by
 refine As (E:=Rl names bad all) (R:=RP names bad all) (fun y => by first | (intro c; cases c) | (rcases y with y | y <;> (intro c; cases c)) | (rcases y with y | y | y <;> (intro c; cases c))) ?_ h
 clear h
 rintro ⟨out,i⟩ o_ h
 dsimp only [DN] at h
 rcases AD h with ⟨z4,h⟩ | ⟨z4,h⟩
 ·try simp only [go_sem,n1,n2,n3,n4] at z4
  all_goals
  obtain ⟨z5,h⟩:=AF h
  have lz5:=Au z5
  have xz5:=AK (AV.int .i64) bad lz5
  try simp only [go_sem] at lz5
  try simp only [go_sem] at xz5
  try simp only [go_sem,n1,n2,n3,n4,z4] at z5
  all_goals
  obtain ⟨z6,h⟩:=AF h
  have lz6:=Au z6
  have xz6:=AK (AV.int .i64) all lz6
  try simp only [go_sem] at lz6
  try simp only [go_sem] at xz6
  try simp only [go_sem,n1,n2,n3,n4,z4,z5] at z6
  all_goals
  obtain ⟨y_7,z7,h⟩:=AC h
  have fz7:=ADc z7
  try simp only [go_sem,z4,z5,z6] at fz7
  obtain ⟨z8,h⟩:=AF h
  try simp only [go_sem,n1,n2,n3,n4,z4,z5,z6] at z8
  all_goals
  obtain rfl:=AB h
  refine ⟨0,fun L hL => ?_⟩
  simp only [go_sem,z4,z5,lz5,xz5,z6,lz6,xz6,fz7,z8]
 ·try simp only [go_sem,n1,n2,n3,n4] at z4
  all_goals
  obtain rfl:=AB h
  refine ⟨0,fun L hL => ?_⟩
  simp only [go_sem,z4]
attribute [local go_sem] xd Rl RP Vg Vf Ve in
theorem ADa {list:List AA} {faults:List AJ} {y_:(List Ac) × Int} (h:Fh list faults = some y_):aS.F [.sl 5 (List.map AE list),.sl 2 (List.map Ae faults)] = ⟨true,.tup [.fresh 2 (List.map BQ y_.1),.int .i64 y_.2],[.any,.any]⟩:=by
 refine Ay (by simp only [Fo,Fu,GQ,List.all_cons,List.all_nil,Bool.and_self,Bx (f:=BQ) (fun _ => rfl)]) ?_
 dsimp only [Fh] at h
 obtain ⟨y_1,z1,h⟩:=AC h
 have fz1:=uk z1
 try simp only [go_sem] at fz1
 rcases AD h with ⟨z2,h⟩ | ⟨z2,h⟩
 ·try simp only [go_sem,n1,n2,n3,n4] at z2
  all_goals
  obtain rfl:=AB h
  refine ⟨0,fun L hL => ?_⟩
  simp only [go_sem,fz1,z2]
 ·try simp only [go_sem,n1,n2,n3,n4] at z2
  all_goals
  obtain ⟨y_3,z3,h⟩:=AC h
  have fz3:=vB z3
  try simp only [go_sem,z2] at fz3
  obtain ⟨y_9,z9,h⟩:=AC h
  obtain ⟨Lz9,ez9⟩:=Lo z9
  obtain rfl:=AB h
  refine ⟨Lz9,fun L hL => ?_⟩
  have ez9:=ez9 L (by omega)
  try simp only [go_sem,z2] at ez9
  simp only [go_sem,fz1,z2,fz3,ez9]
def ABl:List Nat:=[0,1,2,3,4]
def ABm:CI:=⟨2,5,.seq (.region false [ VO 2 2 (.box (.v 0)),VO 3 3 (.box (.v 1)),VO 4 4 (.mov (.c (.bool false)))]) (.seq (.region false [ PO 5 (.fldAddr 0 (.v 2)),PO 6 (.load false 1 (.s 0)),PO 7 (.fldAddr 1 (.v 3)),PO 8 (.load false 1 (.s 0)),PO 9 (.bin false .mul (.s 2) (.s 0)),PO 10 (.fldAddr 0 (.v 3)),PO 11 (.load false 1 (.s 0)),PO 12 (.fldAddr 1 (.v 2)),PO 13 (.load false 1 (.s 0)),PO 14 (.bin false .mul (.s 2) (.s 0)),PO 15 (.bin false .lss (.s 5) (.s 0)),VS 4 4 0]) (.ret)),[.t 4]⟩
noncomputable def AFF:List (Nat × Ax):=[]
noncomputable def aR:Ax:=Di AFF ABm [.bor,.bor]
theorem AFx:AU Tryz.prog 50 aR:=AM _ rfl AP (by kernel_rfl:Af Tryz.prog 50 ABm ABl = true)
theorem AHM:aR.modes = [.bor,.bor]:=rfl
theorem AEF:aR.flat = true:=rfl
attribute [go_sem] AHM AEF
theorem ADZ {f:Ac} {g:Ac} {y_:Bool} (h:Cu f g = some y_):aR.F [BQ f,BQ g] = ⟨true,.bool y_,[.any,.any]⟩:=by
 refine Ay rfl ?_
 dsimp only [Cu] at h
 obtain rfl:=AB h
 refine ⟨0,fun L hL => ?_⟩
 simp only [go_sem,ABm]
def cO:IR:=.seq (.region false [ VO 14 29 (.bin false .lss (.v 13) (.v 12))]) (.seq (.cond (.v 14) (.skip) (.exit 0)) (.seq (.block 1 (.seq (.region false [ PM 30 13,PO 31 (.ixAddr 2 (.v 11) (.v 13)),PO 32 (.load true 2 (.s 0)),VO 10 12 (.alloc (.agg [.int .i64 (0),.int .i64 (0)])),VS 9 11 2,⟨.no,0,none,.store 2 (.v 10) (.s 0)⟩]) (.test false [ PO 33 (.load true 2 (.v 8)),PO 34 (.load true 2 (.v 10)),PO 35 (.call 50 [(.s 1),(.s 0)])] (.s 0) (.anyo 5 [ SO 0 36 (.mov (.v 5)),SO 1 37 (.mov (.v 9)),SO 2 38 (.ixAddr 1 (.s 0) (.s 1)),SO 3 39 (.load false 1 (.s 2)),SO 4 40
 (.load true 2 (.v 10)),VS 7 9 3,⟨.no,0,none,.store 2 (.v 8) (.s 4)⟩] [] .skip) (.skip)))) (.region false [ PO 41 (.bin false .add (.v 13) (I6 1)),VS 13 28 0])))
def Vd:List Bool:=[false,false,false,false,false,true,false,true,true,false,false,true,true,true,false]
def Vc:List Bool:=[false,false,false,false,false,false,false,true,true,false,false,false,false,false,false]
def Vb:List Bool:=[false,false,true,true,false,false,false,false,false,false,false,false,false,false,false]
def ACh:List Nat:=[0,1,4,5,6,7,8,9,10,11,12,26,27,28,29]
def xQ:CI:=⟨2,15,.seq (.region false [ VO 2 4 (.mov (.c (.str []))),VO 3 5 (.mov (I6 0))]) (.seq (.seq (.region false [ PM 13 0,PM 14 1,PO 15 (.call 43 [(.s 1),(.s 0)]),VS 4 6 0]) (.test false [ PM 16 4,PO 17 (.bin false .neq (.s 0) (I6 0))] (.s 0) (.seq (.region false [ PM 18 4,VO 2 4 (.mov (.c (.str []))),VS 3 5 0]) (.ret)) (.skip))) (.seq (.region false [ PM 20 0,PM 21 1,PO 22 (.call 47 [(.s 1),(.s 0)]),PO 19 (.mov (.s 0)),PO 23 (.ext (.s 0) 0),PO 24 (.ext (.s 1) 1),VS 5 7 1,VS 6 8 0]) (.seq (.region false [ PO 25 (.build [.int .i64 (0),.int .i64 (0)] [(0,1,(I6
 0)),(1,1,(I6 1))]),VO 8 10 (.alloc (.agg [.int .i64 (0),.int .i64 (0)])),VO 7 9 (.mov (.c (.str []))),⟨.no,0,none,.store 2 (.v 8) (.s 0)⟩]) (.seq (.seq (.region false [ VO 11 26 (.mov (.v 6)),VO 12 27 (.len false (.v 11)),VO 13 28 (.mov (I6 0))]) (.block 0 (.loop Vd Vc Vb cO))) (.seq (.test false [ PO 42 (.fldAddr 0 (.v 8)),PO 43 (.load false 1 (.s 0)),PO 44 (.bin false .eql (.s 0) (I6 0))] (.s 0) (.seq (.region false [ VO 2 4 (.mov (.c (.str []))),VO 3 5 (.mov (I6 3))]) (.ret)) (.skip)) (.seq (.region false [ PM 45 7,VS 2 4 0,VO 3 5 (.mov (I6 0))])
 (.ret))))))),[.t 2,.t 3]⟩
noncomputable def dO:List (Nat × Ax):=[(43,Yr),(47,TV),(50,aR)]
theorem mc:AR dO 43 = some Yr:=rfl
theorem mb:AR dO 47 = some TV:=rfl
theorem ma:AR dO 50 = some aR:=rfl
noncomputable def aQ:Ax:=Di dO xQ [.bor,.bor]
theorem AFw:AU Tryz.prog 13 aQ:=AM _ rfl (AG AAN (AG zC (AG AFx AP))) (by kernel_rfl:Af Tryz.prog 13 xQ ACh = true)
theorem AHL:aQ.modes = [.bor,.bor]:=rfl
theorem AEE:aQ.flat = true:=rfl
attribute [go_sem] AHL AEE mc mb ma
def Rk (names:List (List UInt8)) (t26:List Ac) (t27:Int):((List UInt8) × Ac × Int) → St
 | (worst,most,t28) => ⟨[.any,.any,.any,.any,.any,.own 3200000,.any,.str worst,.ref 3200032 0 0,.any,.any,.own 3200064,.int .i64 t27,.int .i64 t28,.any],[],[(3200000,⟨1,List.map AV.str names⟩),(3200032,⟨2,[BQ most]⟩),(3200064,⟨2,List.map BQ t26⟩)],true⟩
def RO (names:List (List UInt8)) (t26:List Ac) (t27:Int) (y:(List UInt8) × Ac):EB:=(.exit 0,⟨[.any,.any,.any,.any,.any,.any,.any,.str y.1,.ref 3200000 0 0,.any,.any,.any,.any,.any,.any],[],[(3200000,⟨2,[BQ y.2]⟩)],true⟩)
attribute [local go_sem] xQ Rk RO cO Vd Vc Vb in
theorem LD {names:List (List UInt8)} {t26:List Ac} {t27:Int} {sgm_:(List UInt8) × Ac × Int} {rho_:(List UInt8) × Ac} (h:AL (Bu names t26 t27) sgm_ = some rho_):∃ L0,∀ L,L0 ≤ L → Bk (Az (AR dO) L cO) Vd Vc Vb L (Rk names t26 t27 sgm_) = RO names t26 t27 rho_:=by
 refine As (E:=Rk names t26 t27) (R:=RO names t26 t27) (fun y => by first | (intro c; cases c) | (rcases y with y | y <;> (intro c; cases c)) | (rcases y with y | y | y <;> (intro c; cases c))) ?_ h
 clear h
 rintro ⟨worst,most,t28⟩ o_ h
 dsimp only [Bu] at h
 rcases AD h with ⟨z4,h⟩ | ⟨z4,h⟩
 ·try simp only [go_sem,n1,n2,n3,n4] at z4
  all_goals
  obtain ⟨z5,h⟩:=AF h
  have lz5:=Au z5
  have xz5:=AK BQ t26 lz5
  try simp only [go_sem] at lz5
  try simp only [go_sem] at xz5
  try simp only [go_sem,n1,n2,n3,n4,z4] at z5
  all_goals
  obtain ⟨y_6,z6,h⟩:=AC h
  have fz6:=ADZ z6
  try simp only [go_sem,z4,z5] at fz6
  rcases AD h with ⟨z7,h⟩ | ⟨z7,h⟩
  ·try simp only [go_sem,n1,n2,n3,n4,z4,z5] at z7
   all_goals
   obtain ⟨z8,h⟩:=AF h
   have lz8:=Au z8
   have xz8:=AK AV.str names lz8
   try simp only [go_sem] at lz8
   try simp only [go_sem] at xz8
   try simp only [go_sem,n1,n2,n3,n4,z4,z5,z7] at z8
   all_goals
   obtain rfl:=AB h
   refine ⟨0,fun L hL => ?_⟩
   simp only [go_sem,z4,z5,lz5,xz5,fz6,z7,z8,lz8,xz8]
  ·try simp only [go_sem,n1,n2,n3,n4,z4,z5] at z7
   all_goals
   obtain rfl:=AB h
   refine ⟨0,fun L hL => ?_⟩
   simp only [go_sem,z4,z5,lz5,xz5,fz6,z7]
 ·try simp only [go_sem,n1,n2,n3,n4] at z4
  all_goals
  obtain rfl:=AB h
  refine ⟨0,fun L hL => ?_⟩
  simp only [go_sem,z4]
attribute [local go_sem] xQ Rk RO Vd Vc Vb in
theorem ADY {list:List AA} {faults:List AJ} {y_:(List UInt8) × Int} (h:Ec list faults = some y_):aQ.F [.sl 5 (List.map AE list),.sl 2 (List.map Ae faults)] = ⟨true,.tup [.str y_.1,.int .i64 y_.2],[.any,.any]⟩:=by
 refine Ay rfl ?_
 dsimp only [Ec] at h
 obtain ⟨y_1,z1,h⟩:=AC h
 have fz1:=ul z1
 try simp only [go_sem] at fz1
 rcases AD h with ⟨z2,h⟩ | ⟨z2,h⟩
 ·try simp only [go_sem,n1,n2,n3,n4] at z2
  all_goals
  obtain rfl:=AB h
  refine ⟨0,fun L hL => ?_⟩
  simp only [go_sem,fz1,z2]
 ·try simp only [go_sem,n1,n2,n3,n4] at z2
  all_goals
  obtain ⟨y_3,z3,h⟩:=AC h
  have fz3:=vE z3
  try simp only [go_sem,z2] at fz3
  obtain ⟨y_9,z9,h⟩:=AC h
  obtain ⟨Lz9,ez9⟩:=LD z9
  rcases AD h with ⟨z10,h⟩ | ⟨z10,h⟩
  all_goals
  try simp only [go_sem,n1,n2,n3,n4,z2] at z10
  all_goals
  obtain rfl:=AB h
  refine ⟨Lz9,fun L hL => ?_⟩
  have ez9:=ez9 L (by omega)
  try simp only [go_sem,z2,z10] at ez9
  simp only [go_sem,fz1,z2,fz3,z10,ez9]
def cN:IR:=.seq (.test false [ PM 25 9,PM 26 5,PO 27 (.len false (.s 0)),PO 28 (.bin false .lss (.s 2) (.s 0))] (.s 0) (.skip) (.exit 0)) (.seq (.block 1 (.anyo 30 [ SO 0 31 (.mov (.v 6)),SO 1 32 (.mov (.v 9)),SO 2 33 (.ixAddr 1 (.s 0) (.s 1)),SO 3 34 (.load false 1 (.s 2)),SO 4 35 (.bin false .gtr (.s 3) (I6 0)),SO 5 36 (.mov (.s 4)),⟨.slot 6,37,(some ((.s 5),true)),.mov (.v 8)⟩,⟨.slot 7,38,(some ((.s 5),true)),.bin false .lss (.s 6) (I6 0)⟩,⟨.slot 8,39,(some ((.s 5),true)),.mov (.s 7)⟩,⟨.slot 9,40,(some ((.s 8),false)),.mov (.v 6)⟩,⟨.slot 10,41,(some
 ((.s 8),false)),.mov (.v 9)⟩,⟨.slot 11,42,(some ((.s 8),false)),.ixAddr 1 (.s 9) (.s 10)⟩,⟨.slot 12,43,(some ((.s 8),false)),.load false 1 (.s 11)⟩,⟨.slot 13,44,(some ((.s 8),false)),.mov (.v 7)⟩,⟨.slot 14,45,(some ((.s 8),false)),.mov (.v 8)⟩,⟨.slot 15,46,(some ((.s 8),false)),.ixAddr 1 (.s 13) (.s 14)⟩,⟨.slot 16,47,(some ((.s 8),false)),.load false 1 (.s 15)⟩,⟨.slot 17,48,(some ((.s 8),false)),.bin false .mul (.s 12) (.s 16)⟩,⟨.slot 18,49,(some ((.s 8),false)),.mov (.v 6)⟩,⟨.slot 19,50,(some ((.s 8),false)),.mov (.v 8)⟩,⟨.slot 20,51,(some
 ((.s 8),false)),.ixAddr 1 (.s 18) (.s 19)⟩,⟨.slot 21,52,(some ((.s 8),false)),.load false 1 (.s 20)⟩,⟨.slot 22,53,(some ((.s 8),false)),.mov (.v 7)⟩,⟨.slot 23,54,(some ((.s 8),false)),.mov (.v 9)⟩,⟨.slot 24,55,(some ((.s 8),false)),.ixAddr 1 (.s 22) (.s 23)⟩,⟨.slot 25,56,(some ((.s 8),false)),.load false 1 (.s 24)⟩,⟨.slot 26,57,(some ((.s 8),false)),.bin false .mul (.s 21) (.s 25)⟩,⟨.slot 27,58,(some ((.s 8),false)),.bin false .gtr (.s 17) (.s 26)⟩,⟨.slot 28,59,(some ((.s 5),true)),.pick (.s 8) (.c (.bool true)) (.s 27)⟩,SO 29 60 (.pick (.s 5) (.s 28)
 (.c (.bool false)))] [] (.cond (.s 29) (.region false [ PM 61 9,VS 8 10 0]) (.skip)))) (.region false [ PM 29 9,PO 30 (.bin false .add (.s 0) (I6 1)),VS 9 11 0]))
def Va:List Bool:=[false,false,false,false,false,true,true,true,true,true]
def VZ:List Bool:=[false,false,false,false,false,true,false,false,true,false]
def VY:List Bool:=[false,false,true,true,false,false,false,false,false,false]
def ACg:List Nat:=[0,1,4,5,6,7,8,9,10,11]
def xM:CI:=⟨2,10,.seq (.region false [ VO 2 4 (.mov (.c (.str []))),VO 3 5 (.mov (I6 0))]) (.seq (.region false [ PM 12 0,PM 13 1,PO 14 (.call 45 [(.s 1),(.s 0)]),VS 4 6 0]) (.seq (.test false [ PM 15 4,PO 16 (.bin false .neq (.s 0) (I6 0))] (.s 0) (.seq (.region false [ PM 17 4,VO 2 4 (.mov (.c (.str []))),VS 3 5 0]) (.ret)) (.skip)) (.seq (.region false [ PM 19 0,PM 20 1,PO 21 (.call 48 [(.s 1),(.s 0)]),PO 18 (.mov (.s 0)),PO 22 (.ext (.s 0) 0),PO 23 (.ext (.s 1) 1),PO 24 (.ext (.s 2) 2),VS 5 7 2,VS 6 8 1,VS 7 9 0]) (.seq (.region false [ VO 8 10 (.mov (.c (.int
 .i64 (-1))))]) (.seq (.seq (.region false [ VO 9 11 (.mov (I6 0))]) (.block 0 (.loop Va VZ VY cN))) (.seq (.test false [ PM 62 8,PO 63 (.bin false .lss (.s 0) (I6 0))] (.s 0) (.seq (.region false [ VO 2 4 (.mov (.c (.str []))),VO 3 5 (.mov (I6 3))]) (.ret)) (.skip)) (.seq (.region false [ PM 64 5,PM 65 8,PO 66 (.ixAddr 1 (.s 1) (.s 0)),PO 67 (.load false 1 (.s 0)),VS 2 4 0,VO 3 5 (.mov (I6 0))]) (.ret)))))))),[.t 2,.t 3]⟩
noncomputable def jD:List (Nat × Ax):=[(45,Yq),(48,TT)]
theorem mZ:AR jD 45 = some Yq:=rfl
theorem mY:AR jD 48 = some TT:=rfl
noncomputable def aP:Ax:=Di jD xM [.bor,.bor]
theorem AFv:AU Tryz.prog 14 aP:=AM _ rfl (AG AAM (AG zA AP)) (by kernel_rfl:Af Tryz.prog 14 xM ACg = true)
theorem AHK:aP.modes = [.bor,.bor]:=rfl
theorem AED:aP.flat = true:=rfl
attribute [go_sem] AHK AED mZ mY
def Rj (names:List (List UInt8)) (bad:List Int) (all:List Int):(Int × Int) → St
 | (best,i) => ⟨[.any,.any,.any,.any,.any,.sl 1 (List.map AV.str names),.own 3200000,.own 3200032,.int .i64 best,.int .i64 i],[],[(3200000,⟨1,List.map (AV.int .i64) bad⟩),(3200032,⟨1,List.map (AV.int .i64) all⟩)],true⟩
def RN (names:List (List UInt8)) (bad:List Int) (all:List Int) (y:Int):EB:=(.exit 0,⟨[.any,.any,.any,.any,.any,.sl 1 (List.map AV.str names),.any,.any,.int .i64 y,.any],[],[],true⟩)
set_option maxHeartbeats 64000000 in
attribute [local go_sem] xM Rj RN cN Va VZ VY in
theorem Kt {names:List (List UInt8)} {bad:List Int} {all:List Int} {sgm_:Int × Int} {rho_:Int} (h:AL (Bt names bad all) sgm_ = some rho_):∃ L0,∀ L,L0 ≤ L → Bk (Az (AR jD) L cN) Va VZ VY L (Rj names bad all sgm_) = RN names bad all rho_:=by
 refine As (E:=Rj names bad all) (R:=RN names bad all) (fun y => by first | (intro c; cases c) | (rcases y with y | y <;> (intro c; cases c)) | (rcases y with y | y | y <;> (intro c; cases c))) ?_ h
 clear h
 rintro ⟨best,i⟩ o_ h
 dsimp only [Bt] at h
 rcases AD h with ⟨z4,h⟩ | ⟨z4,h⟩
 ·try simp only [go_sem,n1,n2,n3,n4] at z4
  all_goals
  obtain ⟨z5,h⟩:=AF h
  have lz5:=Au z5
  have xz5:=AK (AV.int .i64) bad lz5
  try simp only [go_sem] at lz5
  try simp only [go_sem] at xz5
  try simp only [go_sem,n1,n2,n3,n4,z4] at z5
  all_goals
  obtain ⟨z6,h⟩:=AF h
  rcases Ab z6 with ⟨gz6,z6⟩ | gz6
  ·try simp only [go_sem,n1,n2,n3,n4,z4,z5] at gz6
   all_goals
   have lz6:=Au z6
   have xz6:=AK (AV.int .i64) all lz6
   try simp only [go_sem] at lz6
   try simp only [go_sem] at xz6
   try simp only [go_sem,n1,n2,n3,n4,z4,z5,gz6] at z6
   all_goals
   obtain ⟨z7,h⟩:=AF h
   rcases Ab z7 with ⟨gz7,z7⟩ | gz7
   ·try simp only [go_sem,n1,n2,n3,n4,z4,z5,gz6,z6] at gz7
    all_goals
    have lz7:=Au z7
    have xz7:=AK (AV.int .i64) bad lz7
    try simp only [go_sem] at lz7
    try simp only [go_sem] at xz7
    try simp only [go_sem,n1,n2,n3,n4,z4,z5,gz6,z6,gz7] at z7
    all_goals
    obtain ⟨z8,h⟩:=AF h
    rcases Ab z8 with ⟨gz8,z8⟩ | gz8
    ·try simp only [go_sem,n1,n2,n3,n4,z4,z5,gz6,z6,gz7,z7] at gz8
     all_goals
     have lz8:=Au z8
     have xz8:=AK (AV.int .i64) all lz8
     try simp only [go_sem] at lz8
     try simp only [go_sem] at xz8
     try simp only [go_sem,n1,n2,n3,n4,z4,z5,gz6,z6,gz7,z7,gz8] at z8
     all_goals
     rcases AD h with ⟨z9,h⟩ | ⟨z9,h⟩
     all_goals
     try simp only [go_sem,n1,n2,n3,n4,z4,z5,gz6,z6,gz7,z7,gz8,z8] at z9
     all_goals
     obtain rfl:=AB h
     refine ⟨0,fun L hL => ?_⟩
     simp only [go_sem,z4,z5,lz5,xz5,gz6,z6,lz6,xz6,gz7,z7,lz7,xz7,gz8,z8,lz8,xz8,z9]
    ·rcases DA gz8 with gz8a | ⟨gz8a,gz8b⟩
     ·try simp only [go_sem,n1,n2,n3,n4,z4,z5,gz6,z6,gz7,z7] at gz8a
      all_goals
      (simp_all)
     ·have gz8bn:=DT gz8b
      try simp only [go_sem,n1,n2,n3,n4,z4,z5,gz6,z6,gz7,z7] at gz8a
      all_goals
      try simp only [go_sem,n1,n2,n3,n4,z4,z5,gz6,z6,gz7,z7,gz8a] at gz8bn
      all_goals
      rcases AD h with ⟨z9,h⟩ | ⟨z9,h⟩
      ·try simp only [go_sem,n1,n2,n3,n4,z4,z5,gz6,z6,gz7,z7,gz8a,gz8bn] at z9
       all_goals
       obtain rfl:=AB h
       refine ⟨0,fun L hL => ?_⟩
       simp only [go_sem,z4,z5,lz5,xz5,gz6,z6,lz6,xz6,gz7,z7,lz7,xz7,gz8a,gz8bn,z9]
      ·try simp only [go_sem,n1,n2,n3,n4,z4,z5,gz6,z6,gz7,z7,gz8a,gz8bn] at z9
       all_goals
       (simp_all)
   ·rcases DA gz7 with gz7a | ⟨gz7a,gz7b⟩
    ·try simp only [go_sem,n1,n2,n3,n4,z4,z5,gz6,z6] at gz7a
     all_goals
     (simp_all)
    ·have gz7bn:=DT gz7b
     try simp only [go_sem,n1,n2,n3,n4,z4,z5,gz6,z6] at gz7a
     all_goals
     try simp only [go_sem,n1,n2,n3,n4,z4,z5,gz6,z6,gz7a] at gz7bn
     all_goals
     obtain ⟨z8,h⟩:=AF h
     rcases Ab z8 with ⟨gz8,z8⟩ | gz8
     ·try simp only [go_sem,n1,n2,n3,n4,z4,z5,gz6,z6,gz7a,gz7bn] at gz8
      all_goals
      have lz8:=Au z8
      have xz8:=AK (AV.int .i64) all lz8
      try simp only [go_sem] at lz8
      try simp only [go_sem] at xz8
      try simp only [go_sem,n1,n2,n3,n4,z4,z5,gz6,z6,gz7a,gz7bn,gz8] at z8
      all_goals
      rcases AD h with ⟨z9,h⟩ | ⟨z9,h⟩
      all_goals
      try simp only [go_sem,n1,n2,n3,n4,z4,z5,gz6,z6,gz7a,gz7bn,gz8,z8] at z9
      all_goals
      obtain rfl:=AB h
      refine ⟨0,fun L hL => ?_⟩
      simp only [go_sem,z4,z5,lz5,xz5,gz6,z6,lz6,xz6,gz7a,gz7bn,gz8,z8,lz8,xz8,z9]
     ·rcases DA gz8 with gz8a | ⟨gz8a,gz8b⟩
      ·try simp only [go_sem,n1,n2,n3,n4,z4,z5,gz6,z6,gz7a,gz7bn] at gz8a
       all_goals
       (simp_all)
      ·have gz8bn:=DT gz8b
       try simp only [go_sem,n1,n2,n3,n4,z4,z5,gz6,z6,gz7a,gz7bn] at gz8a
       all_goals
       try simp only [go_sem,n1,n2,n3,n4,z4,z5,gz6,z6,gz7a,gz7bn,gz8a] at gz8bn
       all_goals
       rcases AD h with ⟨z9,h⟩ | ⟨z9,h⟩
       ·try simp only [go_sem,n1,n2,n3,n4,z4,z5,gz6,z6,gz7a,gz7bn,gz8a,gz8bn] at z9
        all_goals
        obtain rfl:=AB h
        refine ⟨0,fun L hL => ?_⟩
        simp only [go_sem,z4,z5,lz5,xz5,gz6,z6,lz6,xz6,gz7a,gz7bn,gz8a,gz8bn,z9]
       ·try simp only [go_sem,n1,n2,n3,n4,z4,z5,gz6,z6,gz7a,gz7bn,gz8a,gz8bn] at z9
        all_goals
        (simp_all)
  ·rcases DA gz6 with gz6a | ⟨gz6a,gz6b⟩
   ·try simp only [go_sem,n1,n2,n3,n4,z4,z5] at gz6a
    all_goals
    obtain ⟨z7,h⟩:=AF h
    obtain ⟨z8,h⟩:=AF h
    rcases AD h with ⟨z9,h⟩ | ⟨z9,h⟩
    ·try simp only [go_sem,n1,n2,n3,n4,z4,z5,gz6a] at z9
     all_goals
     (simp_all)
    ·try simp only [go_sem,n1,n2,n3,n4,z4,z5,gz6a] at z9
     all_goals
     obtain rfl:=AB h
     refine ⟨0,fun L hL => ?_⟩
     simp only [go_sem,z4,z5,lz5,xz5,gz6a,z9]
   ·have gz6bn:=DT gz6b
    try simp only [go_sem,n1,n2,n3,n4,z4,z5] at gz6a
    all_goals
    try simp only [go_sem,n1,n2,n3,n4,z4,z5,gz6a] at gz6bn
    all_goals
    obtain ⟨z7,h⟩:=AF h
    obtain ⟨z8,h⟩:=AF h
    rcases AD h with ⟨z9,h⟩ | ⟨z9,h⟩
    ·try simp only [go_sem,n1,n2,n3,n4,z4,z5,gz6a,gz6bn] at z9
     all_goals
     obtain rfl:=AB h
     refine ⟨0,fun L hL => ?_⟩
     simp only [go_sem,z4,z5,lz5,xz5,gz6a,gz6bn,z9]
    ·try simp only [go_sem,n1,n2,n3,n4,z4,z5,gz6a,gz6bn] at z9
     all_goals
     (simp_all)
 ·try simp only [go_sem,n1,n2,n3,n4] at z4
  all_goals
  obtain rfl:=AB h
  refine ⟨0,fun L hL => ?_⟩
  simp only [go_sem,z4]
set_option maxHeartbeats 64000000 in
attribute [local go_sem] xM Rj RN Va VZ VY in
theorem ADX {list:List AA} {faults:List AJ} {y_:(List UInt8) × Int} (h:EU list faults = some y_):aP.F [.sl 5 (List.map AE list),.sl 2 (List.map Ae faults)] = ⟨true,.tup [.str y_.1,.int .i64 y_.2],[.any,.any]⟩:=by
 refine Ay rfl ?_
 dsimp only [EU] at h
 obtain ⟨y_1,z1,h⟩:=AC h
 have fz1:=uk z1
 try simp only [go_sem] at fz1
 rcases AD h with ⟨z2,h⟩ | ⟨z2,h⟩
 ·try simp only [go_sem,n1,n2,n3,n4] at z2
  all_goals
  obtain rfl:=AB h
  refine ⟨0,fun L hL => ?_⟩
  simp only [go_sem,fz1,z2]
 ·try simp only [go_sem,n1,n2,n3,n4] at z2
  all_goals
  obtain ⟨y_3,z3,h⟩:=AC h
  have fz3:=vB z3
  try simp only [go_sem,z2] at fz3
  obtain ⟨y_10,z10,h⟩:=AC h
  obtain ⟨Lz10,ez10⟩:=Kt z10
  rcases AD h with ⟨z11,h⟩ | ⟨z11,h⟩
  ·try simp only [go_sem,n1,n2,n3,n4,z2] at z11
   all_goals
   obtain rfl:=AB h
   refine ⟨Lz10,fun L hL => ?_⟩
   have ez10:=ez10 L (by omega)
   try simp only [go_sem,z2,z11] at ez10
   simp only [go_sem,fz1,z2,fz3,z11,ez10]
  ·try simp only [go_sem,n1,n2,n3,n4,z2] at z11
   all_goals
   obtain ⟨z12,h⟩:=AF h
   have lz12:=Au z12
   have xz12:=AK AV.str y_3.1 lz12
   try simp only [go_sem] at lz12
   try simp only [go_sem] at xz12
   try simp only [go_sem,n1,n2,n3,n4,z2,z11] at z12
   all_goals
   obtain rfl:=AB h
   refine ⟨Lz10,fun L hL => ?_⟩
   have ez10:=ez10 L (by omega)
   try simp only [go_sem,z2,z11,z12] at ez10
   simp only [go_sem,fz1,z2,fz3,z11,z12,lz12,xz12,ez10]
def ACe:List Nat:=[0,2,3]
def ACf:CI:=⟨1,3,.seq (.region false [ VO 1 2 (.mov (I6 0))]) (.seq (.region false [ PM 4 0,PO 5 (.call 26 [(.s 0)]),VS 2 3 0]) (.seq (.region false [ PM 6 2,PO 7 (.call 31 [(.s 0),(I6 8)]),PO 8 (.bin false .sub (.s 0) (I6 1)),VS 1 2 0]) (.ret))),[.t 1]⟩
noncomputable def pm:List (Nat × Ax):=[(26,kA),(31,LH)]
theorem mX:AR pm 26 = some kA:=rfl
theorem mW:AR pm 31 = some LH:=rfl
noncomputable def aO:Ax:=Di pm ACf [.bor]
theorem AFu:AU Tryz.prog 15 aO:=AM _ rfl (AG s_1 (AG au AP)) (by kernel_rfl:Af Tryz.prog 15 ACf ACe = true)
theorem AHJ:aO.modes = [.bor]:=rfl
theorem AEC:aO.flat = true:=rfl
attribute [go_sem] AHJ AEC mX mW
theorem ADW {code:List UInt8} {y_:Int} (h:EZ code = some y_):aO.F [.sl 1 (List.map Co code)] = ⟨true,.int .i64 y_,[.any]⟩:=by
 refine Ay rfl ?_
 dsimp only [EZ] at h
 obtain ⟨y_1,z1,h⟩:=AC h
 have fz1:=vF z1
 try simp only [go_sem] at fz1
 obtain ⟨y_2,z2,h⟩:=AC h
 have fz2:=Ed z2
 try simp only [go_sem] at fz2
 obtain rfl:=AB h
 refine ⟨0,fun L hL => ?_⟩
 simp only [go_sem,ACf,fz1,fz2]
def ACd:List Nat:=[0,2,3,4,15]
def tK:CI:=⟨1,5,.seq (.region false [ VO 1 2 (.alloc (.agg [.int .i64 (0),.int .i64 (0)]))]) (.seq (.region false [ PM 5 0,PO 6 (.call 26 [(.s 0)]),VS 2 3 0]) (.seq (.region false [ PM 7 2,PO 8 (.call 31 [(.s 0),(I6 100)]),PO 9 (.build [.int .i64 (0),.int .i64 (0)] [(0,1,(.s 0))]),VO 3 4 (.alloc (.agg [.int .i64 (0),.int .i64 (0)])),⟨.no,0,none,.store 2 (.v 3) (.s 0)⟩]) (.seq (.region false [ PM 10 2,PO 11 (.call 31 [(.s 0),(I6 5)]),PO 12 (.bin false .add (I6 1) (.s 0)),PO 13 (.fldAddr 1 (.v 3)),⟨.no,0,none,.store 1 (.s 0) (.s 1)⟩]) (.seq (.seq (.region false [
 PM 14 2,VO 4 15 (.call 31 [(.s 0),(I6 10)])]) (.block 0 (.test false [ PO 17 (.bin false .eql (.v 4) (I6 0)),PO 16 (.mov (.s 0))] (.s 0) (.region false [ PM 18 2,PO 19 (.mkSl 1 (.int .i64 (0)) 3 [(0,(.c (.int .i64 (-1)))),(1,(I6 99)),(2,(I6 100))]),PO 20 (.call 30 [(.s 1),(.s 0)]),PO 21 (.fldAddr 0 (.v 3)),⟨.no,0,none,.store 1 (.s 0) (.s 1)⟩]) (.test false [ PO 23 (.bin false .eql (.v 4) (I6 1)),PO 22 (.mov (.s 0))] (.s 0) (.region false [ PM 24 2,PO 25 (.mkSl 1 (.int .i64 (0)) 2 [(0,(I6 0)),(1,(I6 6))]),PO 26 (.call 30 [(.s 1),(.s 0)]),PO 27 (.fldAddr 1 (.v 3)),⟨.no,
 0,none,.store 1 (.s 0) (.s 1)⟩]) (.skip))))) (.seq (.region false [ PO 28 (.load true 2 (.v 3)),⟨.no,0,none,.store 2 (.v 1) (.s 0)⟩]) (.ret)))))),[.cell true 2 1]⟩
noncomputable def jC:List (Nat × Ax):=[(26,kA),(31,LH),(30,Ld)]
theorem mV:AR jC 26 = some kA:=rfl
theorem mT:AR jC 31 = some LH:=rfl
theorem mU:AR jC 30 = some Ld:=rfl
noncomputable def TS:Ax:=OE jC tK [.bor]
theorem yz:AU Tryz.prog 16 TS:=Bb _ (AG s_1 (AG au (AG da AP))) (by kernel_rfl:Af Tryz.prog 16 tK ACd = true)
theorem AHI:TS.modes = [.bor]:=rfl
theorem AEB:TS.flat = false:=rfl
attribute [go_sem] AHI AEB mV mT mU
theorem vA {code:List UInt8} {y_:AJ} (h:Da code = some y_):TS.F [.sl 1 (List.map Co code)] = ⟨true,Ae y_,[.any]⟩:=by
 refine FC ?_
 dsimp only [Da] at h
 obtain ⟨y_1,z1,h⟩:=AC h
 have fz1:=vF z1
 try simp only [go_sem] at fz1
 obtain ⟨y_2,z2,h⟩:=AC h
 have fz2:=Ed z2
 try simp only [go_sem] at fz2
 obtain ⟨y_3,z3,h⟩:=AC h
 have fz3:=Ed z3
 try simp only [go_sem] at fz3
 obtain ⟨y_4,z4,h⟩:=AC h
 have fz4:=Ed z4
 try simp only [go_sem] at fz4
 rcases AD h with ⟨z5,h⟩ | ⟨z5,h⟩
 ·try simp only [go_sem,n1,n2,n3,n4] at z5
  all_goals
  obtain ⟨y_6,z6,h⟩:=AC h
  have fz6:=MX z6
  try simp only [go_sem,z5] at fz6
  obtain rfl:=AB h
  refine ⟨0,fun L hL => ?_⟩
  simp only [go_sem,tK,fz1,fz2,fz3,fz4,z5,fz6]
 ·try simp only [go_sem,n1,n2,n3,n4] at z5
  all_goals
  rcases AD h with ⟨z7,h⟩ | ⟨z7,h⟩
  ·try simp only [go_sem,n1,n2,n3,n4,z5] at z7
   all_goals
   obtain ⟨y_8,z8,h⟩:=AC h
   have fz8:=MX z8
   try simp only [go_sem,z5,z7] at fz8
   obtain rfl:=AB h
   refine ⟨0,fun L hL => ?_⟩
   simp only [go_sem,tK,fz1,fz2,fz3,fz4,z5,z7,fz8]
  ·try simp only [go_sem,n1,n2,n3,n4,z5] at z7
   all_goals
   obtain rfl:=AB h
   refine ⟨0,fun L hL => ?_⟩
   simp only [go_sem,tK,fz1,fz2,fz3,fz4,z5,z7]
theorem AAI:AU Tryz.prog 134 ML:=yA
def xw:List Nat:=[0,1,4]
def te:CI:=⟨2,3,.seq (.region false [ VO 2 4 (.mov (.c (.str [])))]) (.seq (.region false [ PM 5 0,PM 6 1,PO 7 (.call 134 [(.s 1),(.s 0)]),VS 2 4 0]) (.ret)),[.t 2]⟩
noncomputable def yl:List (Nat × Ax):=[(134,ML)]
theorem gg:AR yl 134 = some ML:=rfl
noncomputable def aN:Ax:=Di yl te [.bor,.bor]
theorem AFt:AU Tryz.prog 101 aN:=AM _ rfl (AG AAI AP) (by kernel_rfl:Af Tryz.prog 101 te xw = true)
theorem AHH:aN.modes = [.bor,.bor]:=rfl
theorem AEA:aN.flat = true:=rfl
attribute [go_sem] AHH AEA gg
theorem ADV {i:Int} {base:Int} {y_:(List UInt8)} (h:Gd i base = some y_):aN.F [.int .i64 i,.int .i64 base] = ⟨true,.str y_,[.any,.any]⟩:=by
 refine Ay rfl ?_
 dsimp only [Gd] at h
 obtain ⟨y_1,z1,h⟩:=AC h
 have fz1:=yU z1
 try simp only [go_sem] at fz1
 obtain rfl:=AB h
 refine ⟨0,fun L hL => ?_⟩
 simp only [go_sem,te,fz1]
def ABi:List Nat:=[0,2]
def ABj:CI:=⟨1,2,.seq (.region false [ VO 1 2 (.mov (.c (.str [])))]) (.seq (.region false [ PM 3 0,PO 4 (.call 101 [(.s 0),(I6 10)]),VS 1 2 0]) (.ret)),[.t 1]⟩
noncomputable def yk:List (Nat × Ax):=[(101,aN)]
theorem gf:AR yk 101 = some aN:=rfl
noncomputable def aM:Ax:=Di yk ABj [.bor]
theorem AFs:AU Tryz.prog 52 aM:=AM _ rfl (AG AFt AP) (by kernel_rfl:Af Tryz.prog 52 ABj ABi = true)
theorem AHG:aM.modes = [.bor]:=rfl
theorem ADz:aM.flat = true:=rfl
attribute [go_sem] AHG ADz gf
theorem ADU {n:Int} {y_:(List UInt8)} (h:Ip n = some y_):aM.F [.int .i64 n] = ⟨true,.str y_,[.any]⟩:=by
 refine Ay rfl ?_
 dsimp only [Ip] at h
 obtain ⟨y_1,z1,h⟩:=AC h
 have fz1:=ADV z1
 try simp only [go_sem] at fz1
 obtain rfl:=AB h
 refine ⟨0,fun L hL => ?_⟩
 simp only [go_sem,ABj,fz1]
def ABf:List Nat:=[0]
def ABg:CI:=⟨0,1,.seq (.region false [ VO 0 0 (.newnil 1)]) (.seq (.region false [ PO 1 (.mkSl 1 (.str []) 5 [(0,(.c (.str [115,116,97,114]))),(1,(.c (.str [111,98,115,101,114,118,101,114]))),(2,(.c (.str [98,114,105,103,104,116]))),(3,(.c (.str [102,97,105,110,116]))),(4,(.c (.str [116,119,105,110])))]),VS 0 0 0]) (.ret)),[.t 0]⟩
noncomputable def AFE:List (Nat × Ax):=[]
noncomputable def TR:Ax:=Di AFE ABg []
theorem yy:AU Tryz.prog 56 TR:=AM _ rfl AP (by kernel_rfl:Af Tryz.prog 56 ABg ABf = true)
theorem AHF:TR.modes = []:=rfl
theorem ADy:TR.flat = true:=rfl
attribute [go_sem] AHF ADy
theorem uz  {y_:(List (List UInt8))} (h:CT = some y_):TR.F [] = ⟨true,.fresh 1 (List.map AV.str y_),[]⟩:=by
 refine Ay (by simp only [Fo,Fu,GQ,List.all_cons,List.all_nil,Bool.and_self,Bx (f:=AV.str) (fun _ => rfl)]) ?_
 dsimp only [CT] at h
 obtain rfl:=AB h
 refine ⟨0,fun L hL => ?_⟩
 simp only [go_sem,ABg]
def ACW:List Nat:=[0,2]
def wx:CI:=⟨1,2,.seq (.region false [ VO 1 2 (.mov (.c (.str [])))]) (.seq (.test false [ PM 3 0,PO 4 (.call 35 [(.s 0),(I6 1),(I6 5)]),PO 5 (.un .not (.s 0))] (.s 0) (.seq (.region false [ VO 1 2 (.mov (.c (.str [])))]) (.ret)) (.skip)) (.seq (.region false [ PO 6 (.call 56 []),PM 7 0,PO 8 (.bin false .sub (.s 0) (I6 1)),PO 9 (.ixAddr 1 (.s 2) (.s 0)),PO 10 (.load false 1 (.s 0)),VS 1 2 0]) (.ret))),[.t 1]⟩
noncomputable def pl:List (Nat × Ax):=[(35,Mb),(56,TR)]
theorem mS:AR pl 35 = some Mb:=rfl
theorem mR:AR pl 56 = some TR:=rfl
noncomputable def TQ:Ax:=Di pl wx [.bor]
theorem yx:AU Tryz.prog 23 TQ:=AM _ rfl (AG gJ (AG yy AP)) (by kernel_rfl:Af Tryz.prog 23 wx ACW = true)
theorem AHE:TQ.modes = [.bor]:=rfl
theorem ADx:TQ.flat = true:=rfl
attribute [go_sem] AHE ADx mS mR
theorem uy {kind:Int} {y_:(List UInt8)} (h:CR kind = some y_):TQ.F [.int .i64 kind] = ⟨true,.str y_,[.any]⟩:=by
 refine Ay rfl ?_
 dsimp only [CR] at h
 obtain ⟨y_1,z1,h⟩:=AC h
 have fz1:=RY z1
 try simp only [go_sem] at fz1
 rcases AD h with ⟨z2,h⟩ | ⟨z2,h⟩
 ·try simp only [go_sem,n1,n2,n3,n4] at z2
  all_goals
  obtain rfl:=AB h
  refine ⟨0,fun L hL => ?_⟩
  simp only [go_sem,wx,fz1,z2]
 ·try simp only [go_sem,n1,n2,n3,n4] at z2
  all_goals
  obtain ⟨y_3,z3,h⟩:=AC h
  have fz3:=uz z3
  try simp only [go_sem,z2] at fz3
  obtain ⟨z4,h⟩:=AF h
  have lz4:=Au z4
  have xz4:=AK AV.str y_3 lz4
  try simp only [go_sem] at lz4
  try simp only [go_sem] at xz4
  try simp only [go_sem,n1,n2,n3,n4,z2] at z4
  all_goals
  obtain rfl:=AB h
  refine ⟨0,fun L hL => ?_⟩
  simp only [go_sem,wx,fz1,z2,fz3,z4,lz4,xz4]
def ACc:List Nat:=[0,1,2]
def xB:CI:=⟨1,3,.seq (.region false [ VO 1 1 (.box (.v 0)),VO 2 2 (.mov (.c (.str [])))]) (.seq (.test false [ PO 3 (.load true 2 (.v 1)),PO 4 (.mkSl 2 (.agg [.int .i64 (0),.int .i64 (0)]) 1 [(0,(.s 0))]),PO 5 (.call 51 [(.s 0),(I6 100)]),PO 6 (.un .not (.s 0))] (.s 0) (.seq (.region false [ VO 2 2 (.mov (.c (.str [])))]) (.ret)) (.skip)) (.seq (.anyo 8 [ SO 0 7 (.fldAddr 0 (.v 1)),SO 1 8 (.load false 1 (.s 0)),SO 2 9 (.callp 52 [(.s 1)]),SO 3 10 (.bin false .add (.s 2) (.c (.str [32]))),SO 4 11 (.fldAddr 1 (.v 1)),SO 5 12 (.load false 1 (.s 4)),SO 6 13 (.callp 23 [(.s
 5)]),SO 7 14 (.bin false .add (.s 3) (.s 6)),VS 2 2 7] [] .skip) (.ret))),[.t 2]⟩
noncomputable def jB:List (Nat × Ax):=[(51,fO),(52,aM),(23,TQ)]
theorem mP:AR jB 51 = some fO:=rfl
theorem mO:AR jB 52 = some aM:=rfl
theorem mQ:AR jB 23 = some TQ:=rfl
noncomputable def TP:Ax:=Di jB xB [.bor]
theorem yw:AU Tryz.prog 17 TP:=AM _ rfl (AG AFU (AG AFs (AG yx AP))) (by kernel_rfl:Af Tryz.prog 17 xB ACc = true)
theorem AHD:TP.modes = [.bor]:=rfl
theorem ADw:TP.flat = true:=rfl
attribute [go_sem] AHD ADw mP mO mQ
theorem ux {x:AJ} {y_:(List UInt8)} (h:Cn x = some y_):TP.F [Ae x] = ⟨true,.str y_,[.any]⟩:=by
 refine Ay rfl ?_
 dsimp only [Cn] at h
 obtain ⟨y_1,z1,h⟩:=AC h
 have fz1:=zT z1
 try simp only [go_sem] at fz1
 rcases AD h with ⟨z2,h⟩ | ⟨z2,h⟩
 ·try simp only [go_sem,n1,n2,n3,n4] at z2
  all_goals
  obtain rfl:=AB h
  refine ⟨0,fun L hL => ?_⟩
  simp only [go_sem,xB,fz1,z2]
 ·try simp only [go_sem,n1,n2,n3,n4] at z2
  all_goals
  obtain ⟨y_3,z3,h⟩:=AC h
  have fz3:=ADU z3
  try simp only [go_sem,z2] at fz3
  obtain ⟨z4,h⟩:=AF h
  try simp only [go_sem,n1,n2,n3,n4,z2] at z4
  all_goals
  obtain ⟨y_5,z5,h⟩:=AC h
  have fz5:=uy z5
  try simp only [go_sem,z2,z4] at fz5
  obtain ⟨z6,h⟩:=AF h
  try simp only [go_sem,n1,n2,n3,n4,z2,z4] at z6
  all_goals
  obtain rfl:=AB h
  refine ⟨0,fun L hL => ?_⟩
  simp only [go_sem,xB,fz1,z2,fz3,z4,fz5,z6]
theorem AAJ:AU Tryz.prog 53 NF:=yC
theorem qB:AU Tryz.prog 54 Ji:=nK
def bw:IR:=.seq (.region false [ VO 6 9 (.bin false .lss (.v 5) (.v 4))]) (.seq (.cond (.v 6) (.skip) (.exit 0)) (.seq (.block 1 (.seq (.region false [ PM 10 5,VS 3 5 0]) (.test false [ PM 11 1,PM 12 0,PM 13 3,PO 14 (.ixAddr 1 (.s 1) (.s 0)),PO 15 (.load false 1 (.s 0)),PO 16 (.bin false .eql (.s 4) (.s 0))] (.s 0) (.seq (.region false [ PM 17 3,VS 2 4 0]) (.ret)) (.skip)))) (.region false [ PO 18 (.bin false .add (.v 5) (I6 1)),VS 5 8 0])))
def Uq:List Bool:=[true,true,false,false,true,true,false]
def Up:List Bool:=[false,false,false,false,false,false,false]
def Uo:List Bool:=[false,false,true,false,false,false,false]
def ABh:List Nat:=[0,1,4,5,7,8,9]
def wk:CI:=⟨2,7,.seq (.region false [ VO 2 4 (.mov (I6 0))]) (.seq (.seq (.region false [ PM 6 0,VO 4 7 (.len false (.s 0)),VO 5 8 (.mov (I6 0))]) (.block 0 (.loop Uq Up Uo bw))) (.seq (.region false [ VO 2 4 (.mov (.c (.int .i64 (-1))))]) (.ret))),[.t 2]⟩
noncomputable def yj:List (Nat × Ax):=[]
noncomputable def aL:Ax:=Di yj wk [.bor,.bor]
theorem AFq:AU Tryz.prog 55 aL:=AM _ rfl AP (by kernel_rfl:Af Tryz.prog 55 wk ABh = true)
theorem AHC:aL.modes = [.bor,.bor]:=rfl
theorem ADv:aL.flat = true:=rfl
attribute [go_sem] AHC ADv
def Ri (s_:List (List UInt8)) (v:List UInt8) (t7:Int):Int → St
 | t8 => ⟨[.sl 1 (List.map AV.str s_),.str v,.any,.any,.int .i64 t7,.int .i64 t8,.any],[],[],true⟩
def RM (s_:List (List UInt8)) (v:List UInt8) (t7:Int):(Unit ⊕ Int) → EB
 | .inl y => (.exit 0,⟨[.any,.any,.any,.any,.any,.any,.any],[],[],true⟩)
 | .inr y => (.ret,⟨[.any,.any,.int .i64 y,.any,.any,.any,.any],[],[],true⟩)
attribute [local go_sem] wk Ri RM bw Uq Up Uo in
theorem Ih {s_:List (List UInt8)} {v:List UInt8} {t7:Int} {sgm_:Int} {rho_:Unit ⊕ Int} (h:AL (Bg s_ v t7) sgm_ = some rho_):∃ L0,∀ L,L0 ≤ L → Bk (Az (AR yj) L bw) Uq Up Uo L (Ri s_ v t7 sgm_) = RM s_ v t7 rho_:=by
 refine As (E:=Ri s_ v t7) (R:=RM s_ v t7) (fun y => by first | (intro c; cases c) | (rcases y with y | y <;> (intro c; cases c)) | (rcases y with y | y | y <;> (intro c; cases c))) ?_ h
 clear h
 intro t8 o_ h
 dsimp only [Bg] at h
 rcases AD h with ⟨z1,h⟩ | ⟨z1,h⟩
 ·try simp only [go_sem,n1,n2,n3,n4] at z1
  all_goals
  obtain ⟨z2,h⟩:=AF h
  have lz2:=Au z2
  have xz2:=AK AV.str s_ lz2
  try simp only [go_sem] at lz2
  try simp only [go_sem] at xz2
  try simp only [go_sem,n1,n2,n3,n4,z1] at z2
  all_goals
  rcases AD h with ⟨z3,h⟩ | ⟨z3,h⟩
  all_goals
  try simp only [go_sem,n1,n2,n3,n4,z1,z2] at z3
  all_goals
  obtain rfl:=AB h
  refine ⟨0,fun L hL => ?_⟩
  simp only [go_sem,z1,z2,lz2,xz2,z3]
 ·try simp only [go_sem,n1,n2,n3,n4] at z1
  all_goals
  obtain rfl:=AB h
  refine ⟨0,fun L hL => ?_⟩
  simp only [go_sem,z1]
attribute [local go_sem] Ri RM Uq Up Uo wk in
theorem ADT {s_:List (List UInt8)} {v:List UInt8} {y_:Int} (h:CQ s_ v = some y_):aL.F [.sl 1 (List.map AV.str s_),.str v] = ⟨true,.int .i64 y_,[.any,.any]⟩:=by
 refine Ay rfl ?_
 dsimp only [CQ] at h
 obtain ⟨y_4,z4,h⟩:=AC h
 obtain ⟨Lz4,ez4⟩:=Ih z4
 rcases y_4 with y_4a | y_4b
 all_goals
 dsimp only at h
 obtain rfl:=AB h
 refine ⟨Lz4,fun L hL => ?_⟩
 have ez4:=ez4 L (by omega)
 try simp only [go_sem] at ez4
 simp only [go_sem,ez4]
def ACb:List Nat:=[0,2,3,4,5,7,8,9]
def tJ:CI:=⟨1,8,.seq (.region false [ VO 1 2 (.alloc (.agg [.int .i64 (0),.int .i64 (0)])),VO 2 3 (.mov (.c (.bool false)))]) (.seq (.region false [ PM 11 0,PO 12 (.call 53 [(.s 0),(.c (.str [32]))]),PO 10 (.mov (.s 0)),PO 13 (.ext (.s 0) 0),PO 14 (.ext (.s 1) 1),PO 15 (.ext (.s 2) 2),VS 3 4 2,VS 4 5 1,PO 6 (.mov (.s 0))]) (.seq (.region false [ PM 17 3,PO 18 (.call 54 [(.s 0)]),PO 16 (.mov (.s 0)),PO 19 (.ext (.s 0) 0),PO 20 (.ext (.s 1) 1),VS 5 7 1,VS 6 8 0]) (.seq (.region false [ PM 21 5,PO 22 (.call 56 []),PM 23 4,PO 24 (.call 55 [(.s 1),(.s 0)]),PO 25 (.bin
 false .add (.s 0) (I6 1)),PO 26 (.build [.int .i64 (0),.int .i64 (0)] [(0,1,(.s 4)),(1,1,(.s 0))]),VO 7 9 (.alloc (.agg [.int .i64 (0),.int .i64 (0)])),⟨.no,0,none,.store 2 (.v 7) (.s 0)⟩]) (.seq (.test false [ PM 27 6,PO 28 (.un .not (.s 0)),PO 29 (.mov (.s 0)),⟨.push,30,(some ((.s 0),false)),.fldAddr 1 (.v 7)⟩,⟨.push,31,(some ((.s 1),false)),.load false 1 (.s 0)⟩,⟨.push,32,(some ((.s 2),false)),.bin false .eql (.s 0) (I6 0)⟩,PO 33 (.pick (.s 3) (.c (.bool true)) (.s 0)),PO 34 (.mov (.s 0)),⟨.push,35,(some ((.s 0),false)),.load true 2 (.v 7)⟩,⟨.push,36,
 (some ((.s 1),false)),.call 17 [(.s 0)]⟩,⟨.push,37,(some ((.s 2),false)),.mov (.v 0)⟩,⟨.push,38,(some ((.s 3),false)),.bin false .neq (.s 1) (.s 0)⟩,PO 39 (.pick (.s 4) (.c (.bool true)) (.s 0))] (.s 0) (.seq (.region false [ PO 40 (.build [.int .i64 (0),.int .i64 (0)] []),⟨.no,0,none,.store 2 (.v 1) (.s 0)⟩,VO 2 3 (.mov (.c (.bool false)))]) (.ret)) (.skip)) (.seq (.region false [ PO 41 (.load true 2 (.v 7)),⟨.no,0,none,.store 2 (.v 1) (.s 0)⟩,VO 2 3 (.mov (.c (.bool true)))]) (.ret)))))),[.cell true 2 1,.t 2]⟩
noncomputable def ZD:List (Nat × Ax):=[(53,NF),(54,Ji),(56,TR),(55,aL),(17,TP)]
theorem mM:AR ZD 53 = some NF:=rfl
theorem mL:AR ZD 54 = some Ji:=rfl
theorem mJ:AR ZD 56 = some TR:=rfl
theorem mK:AR ZD 55 = some aL:=rfl
theorem mN:AR ZD 17 = some TP:=rfl
noncomputable def aK:Ax:=OE ZD tJ [.bor]
theorem AFp:AU Tryz.prog 18 aK:=Bb _ (AG AAJ (AG qB (AG yy (AG AFq (AG yw AP))))) (by kernel_rfl:Af Tryz.prog 18 tJ ACb = true)
theorem AHB:aK.modes = [.bor]:=rfl
theorem ADu:aK.flat = false:=rfl
attribute [go_sem] AHB ADu mM mL mJ mK mN
theorem uw {s_:List UInt8} {y_:AJ × Bool} (h:Dm s_ = some y_):aK.F [.str s_] = ⟨true,.tup [Ae y_.1,.bool y_.2],[.any]⟩:=by
 refine FC ?_
 dsimp only [Dm] at h
 obtain ⟨y_1,z1,h⟩:=AC h
 have fz1:=yV z1
 try simp only [go_sem] at fz1
 obtain ⟨y_2,z2,h⟩:=AC h
 have fz2:=pN z2
 try simp only [go_sem] at fz2
 obtain ⟨y_3,z3,h⟩:=AC h
 have fz3:=uz z3
 try simp only [go_sem] at fz3
 obtain ⟨y_4,z4,h⟩:=AC h
 have fz4:=ADT z4
 try simp only [go_sem] at fz4
 obtain ⟨z5,h⟩:=AF h
 rcases Ab z5 with ⟨gz5,z5⟩ | gz5
 ·try simp only [go_sem,n1,n2,n3,n4] at gz5
  all_goals
  obtain ⟨y_5,hz5⟩:=Option.isSome_iff_exists.1 z5
  have fz5:=ux hz5
  try simp only [go_sem,n1,n2,n3,n4,gz5] at hz5
  all_goals
  try simp only [go_sem,gz5] at fz5
  rcases AD h with ⟨z6,h⟩ | ⟨z6,h⟩
  all_goals
  try simp only [go_sem,n1,n2,n3,n4,gz5,hz5] at z6
  all_goals
  obtain rfl:=AB h
  refine ⟨0,fun L hL => ?_⟩
  simp only [go_sem,tJ,fz1,fz2,fz3,fz4,gz5,hz5,fz5,z6]
 ·have gz5n:=DT gz5
  rcases gU gz5n with gz5na | ⟨gz5na,gz5nb⟩
  ·have gz5nan:=Ha gz5na
   try simp only [go_sem,n1,n2,n3,n4] at gz5nan
   all_goals
   rcases AD h with ⟨z6,h⟩ | ⟨z6,h⟩
   ·try simp only [go_sem,n1,n2,n3,n4,gz5nan] at z6
    all_goals
    obtain rfl:=AB h
    refine ⟨0,fun L hL => ?_⟩
    simp only [go_sem,tJ,fz1,fz2,fz3,fz4,gz5nan,z6]
   ·try simp only [go_sem,n1,n2,n3,n4,gz5nan] at z6
    all_goals
    (simp_all)
  ·have gz5nan:=DT gz5na
   try simp only [go_sem,n1,n2,n3,n4] at gz5nan
   all_goals
   try simp only [go_sem,n1,n2,n3,n4,gz5nan] at gz5nb
   all_goals
   rcases AD h with ⟨z6,h⟩ | ⟨z6,h⟩
   ·try simp only [go_sem,n1,n2,n3,n4,gz5nan,gz5nb] at z6
    all_goals
    obtain rfl:=AB h
    refine ⟨0,fun L hL => ?_⟩
    simp only [go_sem,tJ,fz1,fz2,fz3,fz4,gz5nan,gz5nb,z6]
   ·try simp only [go_sem,n1,n2,n3,n4,gz5nan,gz5nb] at z6
    all_goals
    (simp_all)
def Xp:IR:=.seq (.test false [ PM 8 3,PO 9 (.bin false .neq (.s 0) (I6 0))] (.s 0) (.skip) (.exit 0)) (.seq (.block 1 (.seq (.region false [ PM 12 3,PO 13 (.bin false .rem (.s 0) (I6 10)),VS 4 5 0]) (.seq (.test false [ PM 14 4,PO 15 (.bin false .lss (.s 0) (I6 0))] (.s 0) (.region false [ PM 16 4,PO 17 (.un .neg (.s 0)),VS 4 5 0]) (.skip)) (.region false [ PM 18 4,PO 19 (.bin false .add (I6 48) (.s 0)),PO 20 (.conv .u8 (.s 0)),PO 21 (.mkSl 1 (.int .u8 (0)) 1 [(0,(.s 0))]),PM 22 2,PO 23 (.app 1 1 (.int .u8 (0)) (.s 1) (.s 0)),VS 2 3 0])))) (.region false [ PM 10 3,PO 11
 (.bin false .quo (.s 0) (I6 10)),VS 3 4 0]))
def Ql:List Bool:=[true,false,true,true,false]
def Qk:List Bool:=[true,false,true,false,false]
def Qj:List Bool:=[false,true,false,false,false]
def xt:List Nat:=[0,2,3,4,5]
def jj:CI:=⟨1,5,.seq (.region false [ VO 1 2 (.mov (.c (.str [])))]) (.seq (.region false [ PO 6 (.mkSl 1 (.int .u8 (0)) 0 []),VS 2 3 0]) (.seq (.seq (.region false [ PM 7 0,VS 3 4 0]) (.block 0 (.loop Ql Qk Qj Xp))) (.seq (.test false [ PM 24 2,PO 25 (.len false (.s 0)),PO 26 (.bin false .eql (.s 0) (I6 0))] (.s 0) (.seq (.region false [ VO 1 2 (.mov (.c (.str [48])))]) (.ret)) (.skip)) (.seq (.test false [ PM 27 0,PO 28 (.bin false .lss (.s 0) (I6 0))] (.s 0) (.seq (.region false [ PM 29 2,PO 30 (.b2s (.s 0)),PO 31 (.bin false .add (.c (.str [45])) (.s
 0)),VS 1 2 0]) (.ret)) (.skip)) (.seq (.region false [ PM 32 2,PO 33 (.b2s (.s 0)),VS 1 2 0]) (.ret)))))),[.t 1]⟩
noncomputable def yi:List (Nat × Ax):=[]
noncomputable def TO:Ax:=Di yi jj [.bor]
theorem yv:AU Tryz.prog 107 TO:=AM _ rfl AP (by kernel_rfl:Af Tryz.prog 107 jj xt = true)
theorem AHA:TO.modes = [.bor]:=rfl
theorem ADt:TO.flat = true:=rfl
attribute [go_sem] AHA ADt
def Rh (n:Int):((List UInt8) × Int) → St
 | (out,k) => ⟨[.int .i64 n,.any,.own 3200000,.int .i64 k,.any],[],[(3200000,⟨1,List.map Co out⟩)],true⟩
def RL (n:Int) (y:(List UInt8)):EB:=(.exit 0,⟨[.int .i64 n,.any,.own 3200000,.any,.any],[],[(3200000,⟨1,List.map Co y⟩)],true⟩)
attribute [local go_sem] jj Rh RL Xp Ql Qk Qj in
theorem PZ {n:Int} {sgm_:(List UInt8) × Int} {rho_:(List UInt8)} (h:AL (Cl n) sgm_ = some rho_):∃ L0,∀ L,L0 ≤ L → Bk (Az (AR yi) L Xp) Ql Qk Qj L (Rh n sgm_) = RL n rho_:=by
 refine As (E:=Rh n) (R:=RL n) (fun y => by first | (intro c; cases c) | (rcases y with y | y <;> (intro c; cases c)) | (rcases y with y | y | y <;> (intro c; cases c))) ?_ h
 clear h
 rintro ⟨out,k⟩ o_ h
 dsimp only [Cl] at h
 rcases AD h with ⟨z1,h⟩ | ⟨z1,h⟩
 ·try simp only [go_sem,n1,n2,n3,n4] at z1
  all_goals
  obtain ⟨z2,h⟩:=AF h
  try simp only [go_sem,n1,n2,n3,n4,z1] at z2
  all_goals
  rcases AD h with ⟨z3,h⟩ | ⟨z3,h⟩
  ·try simp only [go_sem,n1,n2,n3,n4,z1,z2] at z3
   all_goals
   obtain ⟨z4,h⟩:=AF h
   try simp only [go_sem,n1,n2,n3,n4,z1,z2,z3] at z4
   all_goals
   obtain rfl:=AB h
   refine ⟨0,fun L hL => ?_⟩
   simp only [go_sem,z1,z2,z3,z4]
  ·try simp only [go_sem,n1,n2,n3,n4,z1,z2] at z3
   all_goals
   obtain ⟨z5,h⟩:=AF h
   try simp only [go_sem,n1,n2,n3,n4,z1,z2,z3] at z5
   all_goals
   obtain rfl:=AB h
   refine ⟨0,fun L hL => ?_⟩
   simp only [go_sem,z1,z2,z3,z5]
 ·try simp only [go_sem,n1,n2,n3,n4] at z1
  all_goals
  obtain rfl:=AB h
  refine ⟨0,fun L hL => ?_⟩
  simp only [go_sem,z1]
attribute [local go_sem] Rh RL Ql Qk Qj jj in
theorem PG {n:Int} {y_:(List UInt8)} (h:EL n = some y_):TO.F [.int .i64 n] = ⟨true,.str y_,[.any]⟩:=by
 refine Ay rfl ?_
 dsimp only [EL] at h
 obtain ⟨y_6,z6,h⟩:=AC h
 obtain ⟨Lz6,ez6⟩:=PZ z6
 rcases AD h with ⟨z7,h⟩ | ⟨z7,h⟩
 ·try simp only [go_sem,n1,n2,n3,n4] at z7
  all_goals
  obtain rfl:=AB h
  refine ⟨Lz6,fun L hL => ?_⟩
  have ez6:=ez6 L (by omega)
  try simp only [go_sem,z7] at ez6
  simp only [go_sem,z7,ez6]
 ·try simp only [go_sem,n1,n2,n3,n4] at z7
  all_goals
  rcases AD h with ⟨z8,h⟩ | ⟨z8,h⟩
  ·try simp only [go_sem,n1,n2,n3,n4,z7] at z8
   all_goals
   obtain ⟨z9,h⟩:=AF h
   try simp only [go_sem,n1,n2,n3,n4,z7,z8] at z9
   all_goals
   obtain rfl:=AB h
   refine ⟨Lz6,fun L hL => ?_⟩
   have ez6:=ez6 L (by omega)
   try simp only [go_sem,z7,z8,z9] at ez6
   simp only [go_sem,z7,z8,z9,ez6]
  ·try simp only [go_sem,n1,n2,n3,n4,z7] at z8
   all_goals
   obtain rfl:=AB h
   refine ⟨Lz6,fun L hL => ?_⟩
   have ez6:=ez6 L (by omega)
   try simp only [go_sem,z7,z8] at ez6
   simp only [go_sem,z7,z8,ez6]
def ABZ:List Nat:=[0]
def ABa:CI:=⟨0,1,.seq (.region false [ VO 0 0 (.newnil 1)]) (.seq (.region false [ PO 1 (.mkSl 1 (.str []) 5 [(0,(.c (.str [115,116,97,114]))),(1,(.c (.str [111,98,115,101,114,118,101,114]))),(2,(.c (.str [98,114,105,103,104,116]))),(3,(.c (.str [102,97,105,110,116]))),(4,(.c (.str [116,119,105,110])))]),VS 0 0 0]) (.ret)),[.t 0]⟩
noncomputable def AFD:List (Nat × Ax):=[]
noncomputable def OH:Ax:=Di AFD ABa []
theorem qC:AU Tryz.prog 61 OH:=AM _ rfl AP (by kernel_rfl:Af Tryz.prog 61 ABa ABZ = true)
theorem AGz:OH.modes = []:=rfl
theorem ADs:OH.flat = true:=rfl
attribute [go_sem] AGz ADs
theorem iy  {y_:(List (List UInt8))} (h:EK = some y_):OH.F [] = ⟨true,.fresh 1 (List.map AV.str y_),[]⟩:=by
 refine Ay (by simp only [Fo,Fu,GQ,List.all_cons,List.all_nil,Bool.and_self,Bx (f:=AV.str) (fun _ => rfl)]) ?_
 dsimp only [EK] at h
 obtain rfl:=AB h
 refine ⟨0,fun L hL => ?_⟩
 simp only [go_sem,ABa]
def ABU:List Nat:=[0,2]
def ABV:CI:=⟨1,2,.seq (.region false [ VO 1 2 (.mov (.c (.str [])))]) (.seq (.anyo 15 [ SO 0 3 (.mov (.v 0)),SO 1 4 (.nilck (.s 0)),SO 2 5 (.fldAddr 0 (.s 1)),SO 3 6 (.load false 1 (.s 2)),SO 4 7 (.callp 107 [(.s 3)]),SO 5 8 (.bin false .add (.s 4) (.c (.str [32]))),SO 6 9 (.pur (.call 61 [])),SO 7 10 (.mov (.v 0)),SO 8 11 (.nilck (.s 7)),SO 9 12 (.fldAddr 1 (.s 8)),SO 10 13 (.load false 1 (.s 9)),SO 11 14 (.bin false .sub (.s 10) (I6 1)),SO 12 15 (.ixAddr 1 (.s 6) (.s 11)),SO 13 16 (.load false 1 (.s 12)),SO 14 17 (.bin false .add (.s 5) (.s 13)),VS 1 2 14] [] .skip)
 (.ret)),[.t 1]⟩
noncomputable def pk:List (Nat × Ax):=[(107,TO),(61,OH)]
theorem ge:AR pk 107 = some TO:=rfl
theorem mI:AR pk 61 = some OH:=rfl
noncomputable def aJ:Ax:=Di pk ABV [.bor]
theorem AFo:AU Tryz.prog 64 aJ:=AM _ rfl (AG yv (AG qC AP)) (by kernel_rfl:Af Tryz.prog 64 ABV ABU = true)
theorem AGy:aJ.modes = [.bor]:=rfl
theorem ADr:aJ.flat = true:=rfl
attribute [go_sem] AGy ADr ge mI
theorem ADS {x:AJ} {y_:(List UInt8)} (h:Jr x = some y_):aJ.F [.ptr 2 [Ae x] 0 0] = ⟨true,.str y_,[.any]⟩:=by
 refine Ay rfl ?_
 dsimp only [Jr] at h
 obtain ⟨y_1,z1,h⟩:=AC h
 have fz1:=PG z1
 try simp only [go_sem] at fz1
 obtain ⟨z2,h⟩:=AF h
 try simp only [go_sem,n1,n2,n3,n4] at z2
 all_goals
 obtain ⟨y_3,z3,h⟩:=AC h
 have fz3:=iy z3
 try simp only [go_sem,z2] at fz3
 obtain ⟨z4,h⟩:=AF h
 have lz4:=Au z4
 have xz4:=AK AV.str y_3 lz4
 try simp only [go_sem] at lz4
 try simp only [go_sem] at xz4
 try simp only [go_sem,n1,n2,n3,n4,z2] at z4
 all_goals
 obtain ⟨z5,h⟩:=AF h
 try simp only [go_sem,n1,n2,n3,n4,z2,z4] at z5
 all_goals
 obtain rfl:=AB h
 refine ⟨0,fun L hL => ?_⟩
 simp only [go_sem,ABV,fz1,z2,fz3,z4,lz4,xz4,z5]
def ACU:List Nat:=[0,1,2]
def wv:CI:=⟨1,3,.seq (.region false [ VO 1 1 (.box (.v 0)),VO 2 2 (.mov (.c (.str [])))]) (.seq (.test false [ PO 3 (.load true 2 (.v 1)),PO 4 (.mkSl 2 (.agg [.int .i64 (0),.int .i64 (0)]) 1 [(0,(.s 0))]),PO 5 (.call 62 [(.s 0),(I6 100)]),PO 6 (.un .not (.s 0))] (.s 0) (.seq (.region false [ VO 2 2 (.mov (.c (.str [])))]) (.ret)) (.skip)) (.seq (.region false [ PO 7 (.call 64 [(.v 1)]),VS 2 2 0]) (.ret))),[.t 2]⟩
noncomputable def pj:List (Nat × Ax):=[(62,Tg),(64,aJ)]
theorem mH:AR pj 62 = some Tg:=rfl
theorem mG:AR pj 64 = some aJ:=rfl
noncomputable def TN:Ax:=Di pj wv [.bor]
theorem yu:AU Tryz.prog 25 TN:=AM _ rfl (AG vt (AG AFo AP)) (by kernel_rfl:Af Tryz.prog 25 wv ACU = true)
theorem AGx:TN.modes = [.bor]:=rfl
theorem ADq:TN.flat = true:=rfl
attribute [go_sem] AGx ADq mH mG
theorem uu {x:AJ} {y_:(List UInt8)} (h:EW x = some y_):TN.F [Ae x] = ⟨true,.str y_,[.any]⟩:=by
 refine Ay rfl ?_
 dsimp only [EW] at h
 obtain ⟨y_1,z1,h⟩:=AC h
 have fz1:=fj z1
 try simp only [go_sem] at fz1
 rcases AD h with ⟨z2,h⟩ | ⟨z2,h⟩
 ·try simp only [go_sem,n1,n2,n3,n4] at z2
  all_goals
  obtain rfl:=AB h
  refine ⟨0,fun L hL => ?_⟩
  simp only [go_sem,wv,fz1,z2]
 ·try simp only [go_sem,n1,n2,n3,n4] at z2
  all_goals
  obtain ⟨y_3,z3,h⟩:=AC h
  have fz3:=ADS z3
  try simp only [go_sem,z2] at fz3
  obtain rfl:=AB h
  refine ⟨0,fun L hL => ?_⟩
  simp only [go_sem,wv,fz1,z2,fz3]
def ABe:List Nat:=[0,1,4,5,6,8]
def nG:CI:=⟨2,6,.seq (.region false [ VO 2 4 (.mov (.c (.str [])))]) (.seq (.seq (.region false [ PM 7 0,VO 5 8 (.call 31 [(.s 0),(I6 5)])]) (.block 0 (.test false [ PO 10 (.bin false .eql (.v 5) (I6 0)),PO 9 (.mov (.s 0))] (.s 0) (.seq (.region false [ PM 11 0,PM 12 1,PO 13 (.len true (.s 0)),PO 14 (.bin false .add (.s 0) (I6 1)),PO 15 (.call 31 [(.s 3),(.s 0)]),VS 3 5 0]) (.anyo 11 [ SO 0 16 (.flat (.mov (.v 1))),SO 1 17 (.flat (.mov (.v 3))),SO 2 18 (.flat (.pur (.slice 0 (.s 0) none (some (.s 1))))),SO 3 19 (.mov (.v 0)),SO 4 20 (.pur (.mkSl 1 (.str []) 7 [(0,(.c
 (.str [32]))),(1,(.c (.str [48]))),(2,(.c (.str [45]))),(3,(.c (.str [120]))),(4,(.c (.str [49]))),(5,(.c (.str [57]))),(6,(.c (.str [46])))])),SO 5 21 (.call 105 [(.s 3),(.s 4)]),SO 6 22 (.flat (.bin false .add (.s 2) (.s 5))),SO 7 23 (.flat (.mov (.v 1))),SO 8 24 (.flat (.mov (.v 3))),SO 9 25 (.flat (.pur (.slice 0 (.s 7) (some (.s 8)) none))),SO 10 26 (.flat (.bin false .add (.s 6) (.s 9))),VO 1 1 (.flat (.mov (.s 10)))] [] .skip)) (.test false [ PO 28 (.bin false .eql (.v 5) (I6 1)),PO 27 (.mov (.s 0))] (.s 0) (.test false [ PM 29 1,PO 30 (.bin false .neq (.s 0) (.c
 (.str [])))] (.s 0) (.seq (.region false [ PM 31 0,PM 32 1,PO 33 (.len true (.s 0)),PO 34 (.call 31 [(.s 2),(.s 0)]),VS 4 6 0]) (.anyo 8 [ SO 0 35 (.mov (.v 1)),SO 1 36 (.mov (.v 4)),SO 2 37 (.pur (.slice 0 (.s 0) none (some (.s 1)))),SO 3 38 (.mov (.v 1)),SO 4 39 (.mov (.v 4)),SO 5 40 (.bin false .add (.s 4) (I6 1)),SO 6 41 (.pur (.slice 0 (.s 3) (some (.s 5)) none)),SO 7 42 (.bin false .add (.s 2) (.s 6)),VS 1 1 7] [] .skip)) (.skip)) (.skip))))) (.seq (.region false [ PM 43 1,VS 2 4 0]) (.ret))),[.t 2]⟩
noncomputable def pi:List (Nat × Ax):=[(31,LH),(105,jz)]
theorem mF:AR pi 31 = some LH:=rfl
theorem gc:AR pi 105 = some jz:=rfl
noncomputable def aI:Ax:=OE pi nG [.io,.bor]
theorem AFl:AU Tryz.prog 57 aI:=Bb _ (AG au (AG s_5 AP)) (by kernel_rfl:Af Tryz.prog 57 nG ABe = true)
theorem AGw:aI.modes = [.io,.bor]:=rfl
theorem ADp:aI.flat = false:=rfl
attribute [go_sem] AGw ADp mF gc
theorem ADR {s_:AQ} {t:List UInt8} {y_:(List UInt8) × AQ} (h:He s_ t = some y_):aI.F [.mem 3 [Ah s_] 0,.str t] = ⟨true,.str y_.1,[.mem 3 [Ah y_.2] 0,.any]⟩:=by
 refine FC ?_
 dsimp only [He] at h
 obtain ⟨y_1,z1,h⟩:=AC h
 have fz1:=Ed z1
 try simp only [go_sem] at fz1
 rcases AD h with ⟨z2,h⟩ | ⟨z2,h⟩
 ·try simp only [go_sem,n1,n2,n3,n4] at z2
  all_goals
  obtain ⟨y_3,z3,h⟩:=AC h
  have fz3:=Ed z3
  try simp only [go_sem,z2] at fz3
  obtain ⟨z4,h⟩:=AF h
  try simp only [go_sem,n1,n2,n3,n4,z2] at z4
  all_goals
  obtain ⟨y_5,z5,h⟩:=AC h
  have fz5:=Yw z5
  try simp only [go_sem,z2,z4] at fz5
  obtain ⟨z6,h⟩:=AF h
  try simp only [go_sem,n1,n2,n3,n4,z2,z4] at z6
  all_goals
  obtain ⟨z7,h⟩:=AF h
  try simp only [go_sem,n1,n2,n3,n4,z2,z4,z6] at z7
  all_goals
  obtain ⟨z8,h⟩:=AF h
  try simp only [go_sem,n1,n2,n3,n4,z2,z4,z6,z7] at z8
  all_goals
  obtain rfl:=AB h
  refine ⟨0,fun L hL => ?_⟩
  simp only [go_sem,nG,fz1,z2,fz3,z4,fz5,z6,z7,z8]
 ·try simp only [go_sem,n1,n2,n3,n4] at z2
  all_goals
  rcases AD h with ⟨z9,h⟩ | ⟨z9,h⟩
  ·try simp only [go_sem,n1,n2,n3,n4,z2] at z9
   all_goals
   rcases AD h with ⟨z10,h⟩ | ⟨z10,h⟩
   ·try simp only [go_sem,n1,n2,n3,n4,z2,z9] at z10
    all_goals
    obtain ⟨y_11,z11,h⟩:=AC h
    have fz11:=Ed z11
    try simp only [go_sem,z2,z9,z10] at fz11
    obtain ⟨z12,h⟩:=AF h
    try simp only [go_sem,n1,n2,n3,n4,z2,z9,z10] at z12
    all_goals
    obtain ⟨z13,h⟩:=AF h
    try simp only [go_sem,n1,n2,n3,n4,z2,z9,z10,z12] at z13
    all_goals
    obtain ⟨z14,h⟩:=AF h
    try simp only [go_sem,n1,n2,n3,n4,z2,z9,z10,z12,z13] at z14
    all_goals
    obtain rfl:=AB h
    refine ⟨0,fun L hL => ?_⟩
    simp only [go_sem,nG,fz1,z2,z9,z10,fz11,z12,z13,z14]
   ·try simp only [go_sem,n1,n2,n3,n4,z2,z9] at z10
    all_goals
    obtain rfl:=AB h
    refine ⟨0,fun L hL => ?_⟩
    simp only [go_sem,nG,fz1,z2,z9,z10]
  ·try simp only [go_sem,n1,n2,n3,n4,z2] at z9
   all_goals
   obtain rfl:=AB h
   refine ⟨0,fun L hL => ?_⟩
   simp only [go_sem,nG,fz1,z2,z9]
def ACa:List Nat:=[0,2,3,4]
def xA:CI:=⟨1,4,.seq (.region false [ VO 1 2 (.mov (.c (.str [])))]) (.seq (.region false [ PM 5 0,PO 6 (.call 26 [(.s 0)]),VS 2 3 0]) (.seq (.region false [ PM 7 0,PO 8 (.call 16 [(.s 0)]),PO 9 (.call 25 [(.s 0)]),VS 3 4 0]) (.seq (.test false [ PM 10 2,PO 11 (.call 29 [(.s 0),(I6 3)])] (.s 0) (.seq (.region false [ PM 12 2,PM 13 3,PO 14 (.call 57 [(.s 1),(.s 0)]),VS 1 2 0]) (.ret)) (.skip)) (.seq (.region false [ PM 15 3,VS 1 2 0]) (.ret))))),[.t 1]⟩
noncomputable def ZC:List (Nat × Ax):=[(26,kA),(16,TS),(25,TN),(29,PH),(57,aI)]
theorem mC:AR ZC 26 = some kA:=rfl
theorem mE:AR ZC 16 = some TS:=rfl
theorem mD:AR ZC 25 = some TN:=rfl
theorem mB:AR ZC 29 = some PH:=rfl
theorem mA:AR ZC 57 = some aI:=rfl
noncomputable def aH:Ax:=Di ZC xA [.bor]
theorem AFk:AU Tryz.prog 19 aH:=AM _ rfl (AG s_1 (AG yz (AG yu (AG kV (AG AFl AP))))) (by kernel_rfl:Af Tryz.prog 19 xA ACa = true)
theorem AGv:aH.modes = [.bor]:=rfl
theorem ADo:aH.flat = true:=rfl
attribute [go_sem] AGv ADo mC mE mD mB mA
theorem ADQ {code:List UInt8} {y_:(List UInt8)} (h:EY code = some y_):aH.F [.sl 1 (List.map Co code)] = ⟨true,.str y_,[.any]⟩:=by
 refine Ay rfl ?_
 dsimp only [EY] at h
 obtain ⟨y_1,z1,h⟩:=AC h
 have fz1:=vF z1
 try simp only [go_sem] at fz1
 obtain ⟨y_2,z2,h⟩:=AC h
 have fz2:=vA z2
 try simp only [go_sem] at fz2
 obtain ⟨y_3,z3,h⟩:=AC h
 have fz3:=uu z3
 try simp only [go_sem] at fz3
 obtain ⟨y_4,z4,h⟩:=AC h
 have fz4:=Jy z4
 try simp only [go_sem] at fz4
 rcases AD h with ⟨z5,h⟩ | ⟨z5,h⟩
 ·try simp only [go_sem,n1,n2,n3,n4] at z5
  all_goals
  obtain ⟨y_6,z6,h⟩:=AC h
  have fz6:=ADR z6
  try simp only [go_sem,z5] at fz6
  obtain rfl:=AB h
  refine ⟨0,fun L hL => ?_⟩
  simp only [go_sem,xA,fz1,fz2,fz3,fz4,z5,fz6]
 ·try simp only [go_sem,n1,n2,n3,n4] at z5
  all_goals
  obtain rfl:=AB h
  refine ⟨0,fun L hL => ?_⟩
  simp only [go_sem,xA,fz1,fz2,fz3,fz4,z5]
def bu:IR:=.seq (.test false [ PM 9 5,PM 10 0,PO 11 (.len true (.s 0)),PO 12 (.bin false .lss (.s 2) (.s 0))] (.s 0) (.skip) (.exit 0)) (.seq (.block 1 (.test false [ PM 15 0,PM 16 5,PO 17 (.ixStr (.s 1) (.s 0)),PM 18 1,PO 19 (.bin false .eql (.s 1) (.s 0))] (.s 0) (.seq (.region false [ PM 20 3,PM 21 0,PM 22 4,PM 23 5,PO 24 (.slice 0 (.s 2) (some (.s 1)) (some (.s 0))),PO 25 (.mkSl 1 (.str []) 1 [(0,(.s 0))]),PO 26 (.app 1 16 (.str []) (.s 5) (.s 0)),VS 3 5 0]) (.region false [ PM 27 5,PO 28 (.bin false .add (.s 0) (I6 1)),VS 4 6 0])) (.skip))) (.region false [ PM 13
 5,PO 14 (.bin false .add (.s 0) (I6 1)),VS 5 7 0]))
def Un:List Bool:=[true,true,false,true,true,true]
def Um:List Bool:=[true,false,false,true,true,false]
def Ul:List Bool:=[false,false,true,false,false,false]
def ABd:List Nat:=[0,1,4,5,6,7]
def wj:CI:=⟨2,6,.seq (.region false [ VO 2 4 (.newnil 1)]) (.seq (.region false [ PO 8 (.mkSl 1 (.str []) 0 []),VS 3 5 0]) (.seq (.region false [ VO 4 6 (.mov (I6 0))]) (.seq (.seq (.region false [ VO 5 7 (.mov (I6 0))]) (.block 0 (.loop Un Um Ul bu))) (.seq (.region false [ PM 29 3,PM 30 0,PM 31 4,PO 32 (.slice 0 (.s 1) (some (.s 0)) none),PO 33 (.mkSl 1 (.str []) 1 [(0,(.s 0))]),PO 34 (.app 1 16 (.str []) (.s 4) (.s 0)),VS 2 4 0]) (.ret))))),[.t 2]⟩
noncomputable def yh:List (Nat × Ax):=[]
noncomputable def aG:Ax:=Di yh wj [.bor,.bor]
theorem AFj:AU Tryz.prog 58 aG:=AM _ rfl AP (by kernel_rfl:Af Tryz.prog 58 wj ABd = true)
theorem AGu:aG.modes = [.bor,.bor]:=rfl
theorem ADn:aG.flat = true:=rfl
attribute [go_sem] AGu ADn
def Rg (s_:List UInt8) (by_:UInt8):((List (List UInt8)) × Int × Int) → St
 | (out,from_,i) => ⟨[.str s_,.int .u8 (by_.toNat:Int),.any,.own 3200000,.int .i64 from_,.int .i64 i],[],[(3200000,⟨1,List.map AV.str out⟩)],true⟩
def RK (s_:List UInt8) (by_:UInt8) (y:(List (List UInt8)) × Int):EB:=(.exit 0,⟨[.str s_,.any,.any,.own 3200000,.int .i64 y.2,.any],[],[(3200000,⟨1,List.map AV.str y.1⟩)],true⟩)
attribute [local go_sem] wj Rg RK bu Un Um Ul in
theorem Ni {s_:List UInt8} {by_:UInt8} {sgm_:(List (List UInt8)) × Int × Int} {rho_:(List (List UInt8)) × Int} (h:AL (DZ s_ by_) sgm_ = some rho_):∃ L0,∀ L,L0 ≤ L → Bk (Az (AR yh) L bu) Un Um Ul L (Rg s_ by_ sgm_) = RK s_ by_ rho_:=by
 refine As (E:=Rg s_ by_) (R:=RK s_ by_) (fun y => by first | (intro c; cases c) | (rcases y with y | y <;> (intro c; cases c)) | (rcases y with y | y | y <;> (intro c; cases c))) ?_ h
 clear h
 rintro ⟨out,from_,i⟩ o_ h
 dsimp only [DZ] at h
 rcases AD h with ⟨z1,h⟩ | ⟨z1,h⟩
 ·try simp only [go_sem,n1,n2,n3,n4] at z1
  all_goals
  obtain ⟨z2,h⟩:=AF h
  try simp only [go_sem,n1,n2,n3,n4,z1] at z2
  all_goals
  rcases AD h with ⟨z3,h⟩ | ⟨z3,h⟩
  ·try simp only [go_sem,n1,n2,n3,n4,z1,z2] at z3
   all_goals
   obtain ⟨z4,h⟩:=AF h
   try simp only [go_sem,n1,n2,n3,n4,z1,z2,z3] at z4
   all_goals
   obtain ⟨z5,h⟩:=AF h
   try simp only [go_sem,n1,n2,n3,n4,z1,z2,z3,z4] at z5
   all_goals
   obtain rfl:=AB h
   refine ⟨0,fun L hL => ?_⟩
   simp only [go_sem,z1,z2,z3,z4,z5]
  ·try simp only [go_sem,n1,n2,n3,n4,z1,z2] at z3
   all_goals
   obtain rfl:=AB h
   refine ⟨0,fun L hL => ?_⟩
   simp only [go_sem,z1,z2,z3]
 ·try simp only [go_sem,n1,n2,n3,n4] at z1
  all_goals
  obtain rfl:=AB h
  refine ⟨0,fun L hL => ?_⟩
  simp only [go_sem,z1]
attribute [local go_sem] Rg RK Un Um Ul wj in
theorem ADP {s_:List UInt8} {by_:UInt8} {y_:(List (List UInt8))} (h:Hf s_ by_ = some y_):aG.F [.str s_,.int .u8 (by_.toNat:Int)] = ⟨true,.fresh 1 (List.map AV.str y_),[.any,.any]⟩:=by
 refine Ay (by simp only [Fo,Fu,GQ,List.all_cons,List.all_nil,Bool.and_self,Bx (f:=AV.str) (fun _ => rfl)]) ?_
 dsimp only [Hf] at h
 obtain ⟨y_6,z6,h⟩:=AC h
 obtain ⟨Lz6,ez6⟩:=Ni z6
 obtain ⟨z7,h⟩:=AF h
 try simp only [go_sem,n1,n2,n3,n4] at z7
 all_goals
 obtain ⟨z8,h⟩:=AF h
 try simp only [go_sem,n1,n2,n3,n4,z7] at z8
 all_goals
 obtain rfl:=AB h
 refine ⟨Lz6,fun L hL => ?_⟩
 have ez6:=ez6 L (by omega)
 try simp only [go_sem,z7,z8] at ez6
 simp only [go_sem,z7,z8,ez6]
def Pv:IR:=.seq (.test false [ PM 25 5,PM 26 3,PO 27 (.len true (.s 0)),PO 28 (.bin false .lss (.s 2) (.s 0))] (.s 0) (.skip) (.exit 0)) (.seq (.block 1 (.seq (.test false [ PM 31 3,PM 32 5,PO 33 (.ixStr (.s 1) (.s 0)),PO 34 (.call 106 [(.s 0)]),PO 35 (.un .not (.s 0))] (.s 0) (.seq (.region false [ VO 1 2 (.mov (I6 0)),VO 2 3 (.mov (.c (.bool false)))]) (.ret)) (.skip)) (.region false [ PM 36 4,PO 37 (.bin false .mul (I6 10) (.s 0)),PM 38 3,PM 39 5,PO 40 (.ixStr (.s 1) (.s 0)),PO 41 (.bin false .sub (.s 0) (.c (.int .u8 (48)))),PO 42 (.conv .i64 (.s 0)),PO 43 (.bin
 false .add (.s 5) (.s 0)),VS 4 5 0]))) (.region false [ PM 29 5,PO 30 (.bin false .add (.s 0) (I6 1)),VS 5 6 0]))
def Na:List Bool:=[true,false,false,true,true,true]
def NZ:List Bool:=[true,false,false,true,true,false]
def NY:List Bool:=[false,true,true,false,false,false]
def ABc:List Nat:=[0,2,3,4,5,6]
def tF:CI:=⟨1,6,.seq (.region false [ VO 1 2 (.mov (I6 0)),VO 2 3 (.mov (.c (.bool false)))]) (.seq (.region false [ PM 7 0,VS 3 4 0]) (.seq (.test false [ PM 8 3,PO 9 (.bin false .neq (.s 0) (.c (.str []))),PO 10 (.mov (.s 0)),⟨.push,11,(some ((.s 0),true)),.mov (.v 3)⟩,⟨.push,12,(some ((.s 1),true)),.ixStr (.s 0) (I6 0)⟩,⟨.push,13,(some ((.s 2),true)),.bin false .eql (.s 0) (.c (.int .u8 (45)))⟩,PO 14 (.pick (.s 3) (.s 0) (.c (.bool false)))] (.s 0) (.region false [ PM 15 3,PO 16 (.slice 0 (.s 0) (some (I6 1)) none),VS 3 4 0]) (.skip)) (.seq (.test false [ PM 17
 3,PO 18 (.len true (.s 0)),PO 19 (.bin false .lss (.s 0) (I6 1)),PO 20 (.mov (.s 0)),⟨.push,21,(some ((.s 0),false)),.mov (.v 3)⟩,⟨.push,22,(some ((.s 1),false)),.len true (.s 0)⟩,⟨.push,23,(some ((.s 2),false)),.bin false .gtr (.s 0) (I6 18)⟩,PO 24 (.pick (.s 3) (.c (.bool true)) (.s 0))] (.s 0) (.seq (.region false [ VO 1 2 (.mov (I6 0)),VO 2 3 (.mov (.c (.bool false)))]) (.ret)) (.skip)) (.seq (.region false [ VO 4 5 (.mov (I6 0))]) (.seq (.seq (.region false [ VO 5 6 (.mov (I6 0))]) (.block 0 (.loop Na NZ NY Pv))) (.seq (.test false [ PM 44 3,PO 45
 (.len true (.s 0)),PM 46 0,PO 47 (.len true (.s 0)),PO 48 (.bin false .lss (.s 2) (.s 0))] (.s 0) (.region false [ PM 49 4,PO 50 (.un .neg (.s 0)),VS 4 5 0]) (.skip)) (.seq (.test false [ PM 51 4,PO 52 (.call 107 [(.s 0)]),PM 53 0,PO 54 (.bin false .neq (.s 1) (.s 0))] (.s 0) (.seq (.region false [ VO 1 2 (.mov (I6 0)),VO 2 3 (.mov (.c (.bool false)))]) (.ret)) (.skip)) (.seq (.region false [ PM 55 4,VS 1 2 0,VO 2 3 (.mov (.c (.bool true)))]) (.ret))))))))),[.t 1,.t 2]⟩
noncomputable def dN:List (Nat × Ax):=[(106,fW),(107,TO)]
theorem gZ:AR dN 106 = some fW:=rfl
theorem gY:AR dN 107 = some TO:=rfl
noncomputable def aF:Ax:=Di dN tF [.bor]
theorem AFi:AU Tryz.prog 59 aF:=AM _ rfl (AG AFd (AG yv AP)) (by kernel_rfl:Af Tryz.prog 59 tF ABc = true)
theorem AGt:aF.modes = [.bor]:=rfl
theorem ADm:aF.flat = true:=rfl
attribute [go_sem] AGt ADm gZ gY
def NP (s_:List UInt8) (t:List UInt8):(Int × Int) → St
 | (n,i) => ⟨[.str s_,.any,.any,.str t,.int .i64 n,.int .i64 i],[],[],true⟩
def NM (s_:List UInt8) (t:List UInt8):(Int ⊕ (Int × Bool)) → EB
 | .inl y => (.exit 0,⟨[.str s_,.any,.any,.str t,.int .i64 y,.any],[],[],true⟩)
 | .inr y => (.ret,⟨[.any,.int .i64 y.1,.bool y.2,.any,.any,.any],[],[],true⟩)
set_option maxHeartbeats 64000000 in
attribute [local go_sem] tF NP NM Pv Na NZ NY in
theorem Mi {s_:List UInt8} {t:List UInt8} {sgm_:Int × Int} {rho_:Int ⊕ (Int × Bool)} (h:AL (Ce s_ t) sgm_ = some rho_):∃ L0,∀ L,L0 ≤ L → Bk (Az (AR dN) L Pv) Na NZ NY L (NP s_ t sgm_) = NM s_ t rho_:=by
 refine As (E:=NP s_ t) (R:=NM s_ t) (fun y => by first | (intro c; cases c) | (rcases y with y | y <;> (intro c; cases c)) | (rcases y with y | y | y <;> (intro c; cases c))) ?_ h
 clear h
 rintro ⟨n,i⟩ o_ h
 dsimp only [Ce] at h
 rcases AD h with ⟨z5,h⟩ | ⟨z5,h⟩
 ·try simp only [go_sem,n1,n2,n3,n4] at z5
  all_goals
  obtain ⟨z6,h⟩:=AF h
  try simp only [go_sem,n1,n2,n3,n4,z5] at z6
  all_goals
  obtain ⟨y_7,z7,h⟩:=AC h
  have fz7:=ut z7
  try simp only [go_sem,z5,z6] at fz7
  rcases AD h with ⟨z8,h⟩ | ⟨z8,h⟩
  all_goals
  try simp only [go_sem,n1,n2,n3,n4,z5,z6] at z8
  all_goals
  obtain rfl:=AB h
  refine ⟨0,fun L hL => ?_⟩
  simp only [go_sem,z5,z6,fz7,z8]
 ·try simp only [go_sem,n1,n2,n3,n4] at z5
  all_goals
  obtain rfl:=AB h
  refine ⟨0,fun L hL => ?_⟩
  simp only [go_sem,z5]
def Rf (s_:List UInt8) (t:List UInt8):(Int × Int) → St
 | (n,i) => ⟨[.str s_,.any,.any,.str t,.int .i64 n,.int .i64 i],[],[],true⟩
def RJ (s_:List UInt8) (t:List UInt8):(Int ⊕ (Int × Bool)) → EB
 | .inl y => (.exit 0,⟨[.str s_,.any,.any,.str t,.int .i64 y,.any],[],[],true⟩)
 | .inr y => (.ret,⟨[.any,.int .i64 y.1,.bool y.2,.any,.any,.any],[],[],true⟩)
set_option maxHeartbeats 64000000 in
attribute [local go_sem] tF Rf RJ Pv Na NZ NY NP NM in
theorem Je {s_:List UInt8} {t:List UInt8} {sgm_:Int × Int} {rho_:Int ⊕ (Int × Bool)} (h:AL (Ge s_ t) sgm_ = some rho_):∃ L0,∀ L,L0 ≤ L → Bk (Az (AR dN) L Pv) Na NZ NY L (Rf s_ t sgm_) = RJ s_ t rho_:=by
 refine As (E:=Rf s_ t) (R:=RJ s_ t) (fun y => by first | (intro c; cases c) | (rcases y with y | y <;> (intro c; cases c)) | (rcases y with y | y | y <;> (intro c; cases c))) ?_ h
 clear h
 rintro ⟨n,i⟩ o_ h
 dsimp only [Ge] at h
 rcases AD h with ⟨z16,h⟩ | ⟨z16,h⟩
 ·try simp only [go_sem,n1,n2,n3,n4] at z16
  all_goals
  obtain ⟨z17,h⟩:=AF h
  try simp only [go_sem,n1,n2,n3,n4,z16] at z17
  all_goals
  obtain ⟨y_18,z18,h⟩:=AC h
  have fz18:=ut z18
  try simp only [go_sem,z16,z17] at fz18
  rcases AD h with ⟨z19,h⟩ | ⟨z19,h⟩
  all_goals
  try simp only [go_sem,n1,n2,n3,n4,z16,z17] at z19
  all_goals
  obtain rfl:=AB h
  refine ⟨0,fun L hL => ?_⟩
  simp only [go_sem,z16,z17,fz18,z19]
 ·try simp only [go_sem,n1,n2,n3,n4] at z16
  all_goals
  obtain rfl:=AB h
  refine ⟨0,fun L hL => ?_⟩
  simp only [go_sem,z16]
set_option maxHeartbeats 64000000 in
attribute [local go_sem] tF NP NM Na NZ NY Rf RJ in
theorem ADO {s_:List UInt8} {y_:Int × Bool} (h:Gm s_ = some y_):aF.F [.str s_] = ⟨true,.tup [.int .i64 y_.1,.bool y_.2],[.any]⟩:=by
 refine Ay rfl ?_
 dsimp only [Gm] at h
 obtain ⟨z1,h⟩:=AF h
 rcases Ab z1 with ⟨gz1,z1⟩ | gz1
 ·try simp only [go_sem,n1,n2,n3,n4] at gz1
  all_goals
  try simp only [go_sem,n1,n2,n3,n4,gz1] at z1
  all_goals
  rcases AD h with ⟨z2,h⟩ | ⟨z2,h⟩
  ·try simp only [go_sem,n1,n2,n3,n4,gz1,z1] at z2
   all_goals
   obtain ⟨z3,h⟩:=AF h
   try simp only [go_sem,n1,n2,n3,n4,gz1,z1,z2] at z3
   all_goals
   rcases AD h with ⟨z4,h⟩ | ⟨z4,h⟩
   ·try simp only [go_sem,n1,n2,n3,n4,gz1,z1,z2,z3] at z4
    all_goals
    obtain rfl:=AB h
    refine ⟨0,fun L hL => ?_⟩
    simp only [go_sem,gz1,z1,z2,z3,z4]
   ·try simp only [go_sem,n1,n2,n3,n4,gz1,z1,z2,z3] at z4
    all_goals
    obtain ⟨y_9,z9,h⟩:=AC h
    obtain ⟨Lz9,ez9⟩:=Mi z9
    rcases y_9 with y_9a | y_9b
    ·dsimp only at h
     rcases AD h with ⟨z10,h⟩ | ⟨z10,h⟩
     ·try simp only [go_sem,n1,n2,n3,n4,gz1,z1,z2,z3,z4] at z10
      all_goals
      obtain ⟨y_11,z11,h⟩:=AC h
      have fz11:=PG z11
      try simp only [go_sem,gz1,z1,z2,z3,z4,z10] at fz11
      rcases AD h with ⟨z12,h⟩ | ⟨z12,h⟩
      all_goals
      try simp only [go_sem,n1,n2,n3,n4,gz1,z1,z2,z3,z4,z10] at z12
      all_goals
      obtain rfl:=AB h
      refine ⟨Lz9,fun L hL => ?_⟩
      have ez9:=ez9 L (by omega)
      try simp only [go_sem,gz1,z1,z2,z3,z4,z10,z12] at ez9
      simp only [go_sem,gz1,z1,z2,z3,z4,z10,fz11,z12,ez9]
     ·try simp only [go_sem,n1,n2,n3,n4,gz1,z1,z2,z3,z4] at z10
      all_goals
      obtain ⟨y_13,z13,h⟩:=AC h
      have fz13:=PG z13
      try simp only [go_sem,gz1,z1,z2,z3,z4,z10] at fz13
      rcases AD h with ⟨z14,h⟩ | ⟨z14,h⟩
      all_goals
      try simp only [go_sem,n1,n2,n3,n4,gz1,z1,z2,z3,z4,z10] at z14
      all_goals
      obtain rfl:=AB h
      refine ⟨Lz9,fun L hL => ?_⟩
      have ez9:=ez9 L (by omega)
      try simp only [go_sem,gz1,z1,z2,z3,z4,z10,z14] at ez9
      simp only [go_sem,gz1,z1,z2,z3,z4,z10,fz13,z14,ez9]
    ·dsimp only at h
     obtain rfl:=AB h
     refine ⟨Lz9,fun L hL => ?_⟩
     have ez9:=ez9 L (by omega)
     try simp only [go_sem,gz1,z1,z2,z3,z4] at ez9
     simp only [go_sem,gz1,z1,z2,z3,z4,ez9]
  ·try simp only [go_sem,n1,n2,n3,n4,gz1,z1] at z2
   all_goals
   rcases AD h with ⟨z15,h⟩ | ⟨z15,h⟩
   ·try simp only [go_sem,n1,n2,n3,n4,gz1,z1,z2] at z15
    all_goals
    obtain rfl:=AB h
    refine ⟨0,fun L hL => ?_⟩
    simp only [go_sem,gz1,z1,z2,z15]
   ·try simp only [go_sem,n1,n2,n3,n4,gz1,z1,z2] at z15
    all_goals
    obtain ⟨y_20,z20,h⟩:=AC h
    obtain ⟨Lz20,ez20⟩:=Je z20
    rcases y_20 with y_20a | y_20b
    ·dsimp only at h
     rcases AD h with ⟨z21,h⟩ | ⟨z21,h⟩
     ·try simp only [go_sem,n1,n2,n3,n4,gz1,z1,z2,z15] at z21
      all_goals
      obtain ⟨y_22,z22,h⟩:=AC h
      have fz22:=PG z22
      try simp only [go_sem,gz1,z1,z2,z15,z21] at fz22
      rcases AD h with ⟨z23,h⟩ | ⟨z23,h⟩
      all_goals
      try simp only [go_sem,n1,n2,n3,n4,gz1,z1,z2,z15,z21] at z23
      all_goals
      obtain rfl:=AB h
      refine ⟨Lz20,fun L hL => ?_⟩
      have ez20:=ez20 L (by omega)
      try simp only [go_sem,gz1,z1,z2,z15,z21,z23] at ez20
      simp only [go_sem,gz1,z1,z2,z15,z21,fz22,z23,ez20]
     ·try simp only [go_sem,n1,n2,n3,n4,gz1,z1,z2,z15] at z21
      all_goals
      obtain ⟨y_24,z24,h⟩:=AC h
      have fz24:=PG z24
      try simp only [go_sem,gz1,z1,z2,z15,z21] at fz24
      rcases AD h with ⟨z25,h⟩ | ⟨z25,h⟩
      all_goals
      try simp only [go_sem,n1,n2,n3,n4,gz1,z1,z2,z15,z21] at z25
      all_goals
      obtain rfl:=AB h
      refine ⟨Lz20,fun L hL => ?_⟩
      have ez20:=ez20 L (by omega)
      try simp only [go_sem,gz1,z1,z2,z15,z21,z25] at ez20
      simp only [go_sem,gz1,z1,z2,z15,z21,fz24,z25,ez20]
    ·dsimp only at h
     obtain rfl:=AB h
     refine ⟨Lz20,fun L hL => ?_⟩
     have ez20:=ez20 L (by omega)
     try simp only [go_sem,gz1,z1,z2,z15] at ez20
     simp only [go_sem,gz1,z1,z2,z15,ez20]
 ·have gz1n:=DT gz1
  try simp only [go_sem,n1,n2,n3,n4] at gz1n
  all_goals
  rcases AD h with ⟨z2,h⟩ | ⟨z2,h⟩
  ·try simp only [go_sem,n1,n2,n3,n4,gz1n] at z2
   all_goals
   (simp_all)
  ·try simp only [go_sem,n1,n2,n3,n4,gz1n] at z2
   all_goals
   rcases AD h with ⟨z15,h⟩ | ⟨z15,h⟩
   ·try simp only [go_sem,n1,n2,n3,n4,gz1n,z2] at z15
    all_goals
    obtain rfl:=AB h
    refine ⟨0,fun L hL => ?_⟩
    simp only [go_sem,gz1n,z2,z15]
   ·try simp only [go_sem,n1,n2,n3,n4,gz1n,z2] at z15
    all_goals
    obtain ⟨y_20,z20,h⟩:=AC h
    obtain ⟨Lz20,ez20⟩:=Je z20
    rcases y_20 with y_20a | y_20b
    ·dsimp only at h
     rcases AD h with ⟨z21,h⟩ | ⟨z21,h⟩
     ·try simp only [go_sem,n1,n2,n3,n4,gz1n,z2,z15] at z21
      all_goals
      obtain ⟨y_22,z22,h⟩:=AC h
      have fz22:=PG z22
      try simp only [go_sem,gz1n,z2,z15,z21] at fz22
      rcases AD h with ⟨z23,h⟩ | ⟨z23,h⟩
      all_goals
      try simp only [go_sem,n1,n2,n3,n4,gz1n,z2,z15,z21] at z23
      all_goals
      obtain rfl:=AB h
      refine ⟨Lz20,fun L hL => ?_⟩
      have ez20:=ez20 L (by omega)
      try simp only [go_sem,gz1n,z2,z15,z21,z23] at ez20
      simp only [go_sem,gz1n,z2,z15,z21,fz22,z23,ez20]
     ·try simp only [go_sem,n1,n2,n3,n4,gz1n,z2,z15] at z21
      all_goals
      obtain ⟨y_24,z24,h⟩:=AC h
      have fz24:=PG z24
      try simp only [go_sem,gz1n,z2,z15,z21] at fz24
      rcases AD h with ⟨z25,h⟩ | ⟨z25,h⟩
      all_goals
      try simp only [go_sem,n1,n2,n3,n4,gz1n,z2,z15,z21] at z25
      all_goals
      obtain rfl:=AB h
      refine ⟨Lz20,fun L hL => ?_⟩
      have ez20:=ez20 L (by omega)
      try simp only [go_sem,gz1n,z2,z15,z21,z25] at ez20
      simp only [go_sem,gz1n,z2,z15,z21,fz24,z25,ez20]
    ·dsimp only at h
     obtain rfl:=AB h
     refine ⟨Lz20,fun L hL => ?_⟩
     have ez20:=ez20 L (by omega)
     try simp only [go_sem,gz1n,z2,z15] at ez20
     simp only [go_sem,gz1n,z2,z15,ez20]
def ACZ:List Nat:=[0,2,3,4,5,6,7]
def tI:CI:=⟨1,7,.seq (.region false [ VO 1 2 (.alloc (.agg [.int .i64 (0),.int .i64 (0)])),VO 2 3 (.mov (.c (.bool false)))]) (.seq (.region false [ PM 8 0,PO 9 (.call 58 [(.s 0),(.c (.int .u8 (32)))]),VS 3 4 0]) (.seq (.test false [ PM 10 3,PO 11 (.len false (.s 0)),PO 12 (.bin false .neq (.s 0) (I6 2))] (.s 0) (.seq (.region false [ PO 13 (.build [.int .i64 (0),.int .i64 (0)] []),⟨.no,0,none,.store 2 (.v 1) (.s 0)⟩,VO 2 3 (.mov (.c (.bool false)))]) (.ret)) (.skip)) (.seq (.region false [ PM 15 3,PO 16 (.ixAddr 1 (.s 0) (I6 0)),PO 17 (.load false 1 (.s 0)),PO 18
 (.call 59 [(.s 0)]),PO 14 (.mov (.s 0)),PO 19 (.ext (.s 0) 0),PO 20 (.ext (.s 1) 1),VS 4 5 1,VS 5 6 0]) (.seq (.anyo 8 [ SO 0 21 (.flat (.mov (.v 4))),SO 1 22 (.safe [7] (.pur (.call 61 []))),SO 2 23 (.safe [7] (.mov (.v 3))),SO 3 24 (.safe [7] (.ixAddr 1 (.s 2) (I6 1))),SO 4 25 (.safe [7] (.load false 1 (.s 3))),SO 5 26 (.safe [7] (.callp 60 [(.s 1),(.s 4)])),SO 6 27 (.flat (.bin false .add (.s 5) (I6 1))),SO 7 28 (.safe [7] (.pur (.build [.int .i64 (0),.int .i64 (0)] [(0,1,(.s 0)),(1,1,(.s 6))]))),VO 6 7 (.alloc (.agg [.int .i64 (0),.int .i64 (0)])),⟨.no,0,none,
 .store 2 (.v 6) (.s 7)⟩] [] .skip) (.seq (.test false [ PM 29 5,PO 30 (.un .not (.s 0)),PO 31 (.mov (.s 0)),⟨.push,32,(some ((.s 0),false)),.load true 2 (.v 6)⟩,⟨.push,33,(some ((.s 1),false)),.mkSl 2 (.agg [.int .i64 (0),.int .i64 (0)]) 1 [(0,(.s 0))]⟩,⟨.push,34,(some ((.s 2),false)),.call 62 [(.s 0),(I6 100)]⟩,⟨.push,35,(some ((.s 3),false)),.un .not (.s 0)⟩,PO 36 (.pick (.s 4) (.c (.bool true)) (.s 0))] (.s 0) (.seq (.region false [ PO 37 (.build [.int .i64 (0),.int .i64 (0)] []),⟨.no,0,none,.store 2 (.v 1) (.s 0)⟩,VO 2 3 (.mov (.c (.bool false)))]) (.ret))
 (.skip)) (.seq (.region false [ PO 38 (.load true 2 (.v 6)),⟨.no,0,none,.store 2 (.v 1) (.s 0)⟩,VO 2 3 (.mov (.c (.bool true)))]) (.ret))))))),[.cell true 2 1,.t 2]⟩
noncomputable def ZB:List (Nat × Ax):=[(58,aG),(59,aF),(61,OH),(60,TU),(62,Tg)]
theorem lz:AR ZB 58 = some aG:=rfl
theorem ly:AR ZB 59 = some aF:=rfl
theorem lw:AR ZB 61 = some OH:=rfl
theorem lx:AR ZB 60 = some TU:=rfl
theorem lv:AR ZB 62 = some Tg:=rfl
noncomputable def aE:Ax:=OE ZB tI [.bor]
theorem AFh:AU Tryz.prog 20 aE:=Bb _ (AG AFj (AG AFi (AG qC (AG zB (AG vt AP))))) (by kernel_rfl:Af Tryz.prog 20 tI ACZ = true)
theorem AGs:aE.modes = [.bor]:=rfl
theorem ADl:aE.flat = false:=rfl
attribute [go_sem] AGs ADl lz ly lw lx lv
theorem ADN {s_:List UInt8} {y_:AJ × Bool} (h:EV s_ = some y_):aE.F [.str s_] = ⟨true,.tup [Ae y_.1,.bool y_.2],[.any]⟩:=by
 refine FC ?_
 dsimp only [EV] at h
 obtain ⟨y_1,z1,h⟩:=AC h
 have fz1:=ADP z1
 try simp only [go_sem] at fz1
 rcases AD h with ⟨z2,h⟩ | ⟨z2,h⟩
 ·try simp only [go_sem,n1,n2,n3,n4] at z2
  all_goals
  obtain rfl:=AB h
  refine ⟨0,fun L hL => ?_⟩
  simp only [go_sem,tI,fz1,z2]
 ·try simp only [go_sem,n1,n2,n3,n4] at z2
  all_goals
  obtain ⟨z3,h⟩:=AF h
  have lz3:=Au z3
  have xz3:=AK AV.str y_1 lz3
  try simp only [go_sem] at lz3
  try simp only [go_sem] at xz3
  try simp only [go_sem,n1,n2,n3,n4,z2] at z3
  all_goals
  obtain ⟨y_4,z4,h⟩:=AC h
  have fz4:=ADO z4
  try simp only [go_sem,z2,z3] at fz4
  obtain ⟨y_5,z5,h⟩:=AC h
  have fz5:=iy z5
  try simp only [go_sem,z2,z3] at fz5
  obtain ⟨z6,h⟩:=AF h
  have lz6:=Au z6
  have xz6:=AK AV.str y_1 lz6
  try simp only [go_sem] at lz6
  try simp only [go_sem] at xz6
  try simp only [go_sem,n1,n2,n3,n4,z2,z3] at z6
  all_goals
  obtain ⟨y_7,z7,h⟩:=AC h
  have fz7:=vC z7
  try simp only [go_sem,z2,z3,z6] at fz7
  obtain ⟨z8,h⟩:=AF h
  rcases Ab z8 with ⟨gz8,z8⟩ | gz8
  ·try simp only [go_sem,n1,n2,n3,n4,z2,z3,z6] at gz8
   all_goals
   obtain ⟨y_8,hz8⟩:=Option.isSome_iff_exists.1 z8
   have fz8:=fj hz8
   try simp only [go_sem,n1,n2,n3,n4,z2,z3,z6,gz8] at hz8
   all_goals
   try simp only [go_sem,z2,z3,z6,gz8] at fz8
   rcases AD h with ⟨z9,h⟩ | ⟨z9,h⟩
   all_goals
   try simp only [go_sem,n1,n2,n3,n4,z2,z3,z6,gz8,hz8] at z9
   all_goals
   obtain rfl:=AB h
   refine ⟨0,fun L hL => ?_⟩
   simp only [go_sem,tI,fz1,z2,z3,lz3,xz3,fz4,fz5,z6,lz6,xz6,fz7,gz8,hz8,fz8,z9]
  ·have gz8n:=DT gz8
   have gz8nn:=Ha gz8n
   try simp only [go_sem,n1,n2,n3,n4,z2,z3,z6] at gz8nn
   all_goals
   rcases AD h with ⟨z9,h⟩ | ⟨z9,h⟩
   ·try simp only [go_sem,n1,n2,n3,n4,z2,z3,z6,gz8nn] at z9
    all_goals
    obtain rfl:=AB h
    refine ⟨0,fun L hL => ?_⟩
    simp only [go_sem,tI,fz1,z2,z3,lz3,xz3,fz4,fz5,z6,lz6,xz6,fz7,gz8nn,z9]
   ·try simp only [go_sem,n1,n2,n3,n4,z2,z3,z6,gz8nn] at z9
    all_goals
    (simp_all)
def cM:IR:=.seq (.test false [ PM 11 3,PM 12 0,PO 13 (.len false (.s 0)),PO 14 (.bin false .lss (.s 2) (.s 0))] (.s 0) (.skip) (.exit 0)) (.seq (.block 1 (.anyo 9 [ SO 0 17 (.mov (.v 0)),SO 1 18 (.mov (.v 3)),SO 2 19 (.ixAddr 5 (.s 0) (.s 1)),SO 3 20 (.load true 5 (.s 2)),SO 4 21 (.mov (.v 1)),SO 5 22 (.mov (.v 3)),SO 6 23 (.ixAddr 5 (.s 4) (.s 5)),SO 7 24 (.load true 5 (.s 6)),SO 8 25 (.eqA true [1,2,2,1,0] (.s 3) (.s 7))] [] (.cond (.s 8) (.seq (.region false [ VO 2 4 (.mov (.c (.bool false)))]) (.ret)) (.skip)))) (.region false [ PM 15 3,PO 16 (.bin false .add (.s 0)
 (I6 1)),VS 3 5 0]))
def VX:List Bool:=[true,true,false,true]
def VW:List Bool:=[false,false,false,false]
def VV:List Bool:=[false,false,true,false]
def ACY:List Nat:=[0,1,4,5]
def wz:CI:=⟨2,4,.seq (.region false [ VO 2 4 (.mov (.c (.bool false)))]) (.seq (.test false [ PM 6 0,PO 7 (.len false (.s 0)),PM 8 1,PO 9 (.len false (.s 0)),PO 10 (.bin false .neq (.s 2) (.s 0))] (.s 0) (.seq (.region false [ VO 2 4 (.mov (.c (.bool false)))]) (.ret)) (.skip)) (.seq (.seq (.region false [ VO 3 5 (.mov (I6 0))]) (.block 0 (.loop VX VW VV cM))) (.seq (.region false [ VO 2 4 (.mov (.c (.bool true)))]) (.ret)))),[.t 2]⟩
noncomputable def yf:List (Nat × Ax):=[]
noncomputable def aD:Ax:=Di yf wz [.bor,.bor]
theorem AFg:AU Tryz.prog 21 aD:=AM _ rfl AP (by kernel_rfl:Af Tryz.prog 21 wz ACY = true)
theorem AGr:aD.modes = [.bor,.bor]:=rfl
theorem ADk:aD.flat = true:=rfl
attribute [go_sem] AGr ADk
def Re (a:List AA) (b:List AA):Int → St
 | i => ⟨[.sl 5 (List.map AE a),.sl 5 (List.map AE b),.any,.int .i64 i],[],[],true⟩
def RI (a:List AA) (b:List AA):(Unit ⊕ Bool) → EB
 | .inl y => (.exit 0,⟨[.any,.any,.any,.any],[],[],true⟩)
 | .inr y => (.ret,⟨[.any,.any,.bool y,.any],[],[],true⟩)
attribute [local go_sem] wz Re RI cM VX VW VV in
theorem Ku {a:List AA} {b:List AA} {sgm_:Int} {rho_:Unit ⊕ Bool} (h:AL (Cj a b) sgm_ = some rho_):∃ L0,∀ L,L0 ≤ L → Bk (Az (AR yf) L cM) VX VW VV L (Re a b sgm_) = RI a b rho_:=by
 refine As (E:=Re a b) (R:=RI a b) (fun y => by first | (intro c; cases c) | (rcases y with y | y <;> (intro c; cases c)) | (rcases y with y | y | y <;> (intro c; cases c))) ?_ h
 clear h
 intro i o_ h
 dsimp only [Cj] at h
 rcases AD h with ⟨z2,h⟩ | ⟨z2,h⟩
 ·try simp only [go_sem,n1,n2,n3,n4] at z2
  all_goals
  obtain ⟨z3,h⟩:=AF h
  have lz3:=Au z3
  have xz3:=AK AE a lz3
  try simp only [go_sem] at lz3
  try simp only [go_sem] at xz3
  try simp only [go_sem,n1,n2,n3,n4,z2] at z3
  all_goals
  obtain ⟨z4,h⟩:=AF h
  have lz4:=Au z4
  have xz4:=AK AE b lz4
  try simp only [go_sem] at lz4
  try simp only [go_sem] at xz4
  try simp only [go_sem,n1,n2,n3,n4,z2,z3] at z4
  all_goals
  rcases AD h with ⟨z5,h⟩ | ⟨z5,h⟩
  all_goals
  try simp only [go_sem,n1,n2,n3,n4,z2,z3,z4] at z5
  all_goals
  obtain rfl:=AB h
  refine ⟨0,fun L hL => ?_⟩
  simp only [go_sem,z2,z3,lz3,xz3,z4,lz4,xz4,z5]
 ·try simp only [go_sem,n1,n2,n3,n4] at z2
  all_goals
  obtain rfl:=AB h
  refine ⟨0,fun L hL => ?_⟩
  simp only [go_sem,z2]
attribute [local go_sem] wz Re RI VX VW VV in
theorem ADM {a:List AA} {b:List AA} {y_:Bool} (h:Bl a b = some y_):aD.F [.sl 5 (List.map AE a),.sl 5 (List.map AE b)] = ⟨true,.bool y_,[.any,.any]⟩:=by
 refine Ay rfl ?_
 dsimp only [Bl] at h
 rcases AD h with ⟨z1,h⟩ | ⟨z1,h⟩
 ·try simp only [go_sem,n1,n2,n3,n4] at z1
  all_goals
  obtain rfl:=AB h
  refine ⟨0,fun L hL => ?_⟩
  simp only [go_sem,z1]
 ·try simp only [go_sem,n1,n2,n3,n4] at z1
  all_goals
  obtain ⟨y_6,z6,h⟩:=AC h
  obtain ⟨Lz6,ez6⟩:=Ku z6
  rcases y_6 with y_6a | y_6b
  all_goals
  dsimp only at h
  obtain rfl:=AB h
  refine ⟨Lz6,fun L hL => ?_⟩
  have ez6:=ez6 L (by omega)
  try simp only [go_sem,z1] at ez6
  simp only [go_sem,z1,ez6]
def cL:IR:=.seq (.test false [ PM 11 3,PM 12 0,PO 13 (.len false (.s 0)),PO 14 (.bin false .lss (.s 2) (.s 0))] (.s 0) (.skip) (.exit 0)) (.seq (.block 1 (.anyo 9 [ SO 0 17 (.mov (.v 0)),SO 1 18 (.mov (.v 3)),SO 2 19 (.ixAddr 2 (.s 0) (.s 1)),SO 3 20 (.load true 2 (.s 2)),SO 4 21 (.mov (.v 1)),SO 5 22 (.mov (.v 3)),SO 6 23 (.ixAddr 2 (.s 4) (.s 5)),SO 7 24 (.load true 2 (.s 6)),SO 8 25 (.eqA true [1,1] (.s 3) (.s 7))] [] (.cond (.s 8) (.seq (.region false [ VO 2 4 (.mov (.c (.bool false)))]) (.ret)) (.skip)))) (.region false [ PM 15 3,PO 16 (.bin false .add (.s 0) (I6 1)),
 VS 3 5 0]))
def VU:List Bool:=[true,true,false,true]
def VT:List Bool:=[false,false,false,false]
def VQ:List Bool:=[false,false,true,false]
def ACX:List Nat:=[0,1,4,5]
def wy:CI:=⟨2,4,.seq (.region false [ VO 2 4 (.mov (.c (.bool false)))]) (.seq (.test false [ PM 6 0,PO 7 (.len false (.s 0)),PM 8 1,PO 9 (.len false (.s 0)),PO 10 (.bin false .neq (.s 2) (.s 0))] (.s 0) (.seq (.region false [ VO 2 4 (.mov (.c (.bool false)))]) (.ret)) (.skip)) (.seq (.seq (.region false [ VO 3 5 (.mov (I6 0))]) (.block 0 (.loop VU VT VQ cL))) (.seq (.region false [ VO 2 4 (.mov (.c (.bool true)))]) (.ret)))),[.t 2]⟩
noncomputable def ye:List (Nat × Ax):=[]
noncomputable def aC:Ax:=Di ye wy [.bor,.bor]
theorem AFf:AU Tryz.prog 22 aC:=AM _ rfl AP (by kernel_rfl:Af Tryz.prog 22 wy ACX = true)
theorem AGq:aC.modes = [.bor,.bor]:=rfl
theorem ADj:aC.flat = true:=rfl
attribute [go_sem] AGq ADj
def Rd (a:List Ac) (b:List Ac):Int → St
 | i => ⟨[.sl 2 (List.map BQ a),.sl 2 (List.map BQ b),.any,.int .i64 i],[],[],true⟩
def RH (a:List Ac) (b:List Ac):(Unit ⊕ Bool) → EB
 | .inl y => (.exit 0,⟨[.any,.any,.any,.any],[],[],true⟩)
 | .inr y => (.ret,⟨[.any,.any,.bool y,.any],[],[],true⟩)
attribute [local go_sem] wy Rd RH cL VU VT VQ in
theorem Lw {a:List Ac} {b:List Ac} {sgm_:Int} {rho_:Unit ⊕ Bool} (h:AL (DP a b) sgm_ = some rho_):∃ L0,∀ L,L0 ≤ L → Bk (Az (AR ye) L cL) VU VT VQ L (Rd a b sgm_) = RH a b rho_:=by
 refine As (E:=Rd a b) (R:=RH a b) (fun y => by first | (intro c; cases c) | (rcases y with y | y <;> (intro c; cases c)) | (rcases y with y | y | y <;> (intro c; cases c))) ?_ h
 clear h
 intro i o_ h
 dsimp only [DP] at h
 rcases AD h with ⟨z2,h⟩ | ⟨z2,h⟩
 ·try simp only [go_sem,n1,n2,n3,n4] at z2
  all_goals
  obtain ⟨z3,h⟩:=AF h
  have lz3:=Au z3
  have xz3:=AK BQ a lz3
  try simp only [go_sem] at lz3
  try simp only [go_sem] at xz3
  try simp only [go_sem,n1,n2,n3,n4,z2] at z3
  all_goals
  obtain ⟨z4,h⟩:=AF h
  have lz4:=Au z4
  have xz4:=AK BQ b lz4
  try simp only [go_sem] at lz4
  try simp only [go_sem] at xz4
  try simp only [go_sem,n1,n2,n3,n4,z2,z3] at z4
  all_goals
  rcases AD h with ⟨z5,h⟩ | ⟨z5,h⟩
  all_goals
  try simp only [go_sem,n1,n2,n3,n4,z2,z3,z4] at z5
  all_goals
  obtain rfl:=AB h
  refine ⟨0,fun L hL => ?_⟩
  simp only [go_sem,z2,z3,lz3,xz3,z4,lz4,xz4,z5]
 ·try simp only [go_sem,n1,n2,n3,n4] at z2
  all_goals
  obtain rfl:=AB h
  refine ⟨0,fun L hL => ?_⟩
  simp only [go_sem,z2]
attribute [local go_sem] wy Rd RH VU VT VQ in
theorem ADL {a:List Ac} {b:List Ac} {y_:Bool} (h:CX a b = some y_):aC.F [.sl 2 (List.map BQ a),.sl 2 (List.map BQ b)] = ⟨true,.bool y_,[.any,.any]⟩:=by
 refine Ay rfl ?_
 dsimp only [CX] at h
 rcases AD h with ⟨z1,h⟩ | ⟨z1,h⟩
 ·try simp only [go_sem,n1,n2,n3,n4] at z1
  all_goals
  obtain rfl:=AB h
  refine ⟨0,fun L hL => ?_⟩
  simp only [go_sem,z1]
 ·try simp only [go_sem,n1,n2,n3,n4] at z1
  all_goals
  obtain ⟨y_6,z6,h⟩:=AC h
  obtain ⟨Lz6,ez6⟩:=Lw z6
  rcases y_6 with y_6a | y_6b
  all_goals
  dsimp only at h
  obtain rfl:=AB h
  refine ⟨Lz6,fun L hL => ?_⟩
  have ez6:=ez6 L (by omega)
  try simp only [go_sem,z1] at ez6
  simp only [go_sem,z1,ez6]
def ACV:List Nat:=[0,2]
def ww:CI:=⟨1,2,.seq (.region false [ VO 1 2 (.mov (.c (.str [])))]) (.seq (.test false [ PM 3 0,PO 4 (.call 63 [(.s 0)]),PO 5 (.un .not (.s 0))] (.s 0) (.seq (.region false [ VO 1 2 (.mov (.c (.str [])))]) (.ret)) (.skip)) (.seq (.region false [ PO 6 (.call 61 []),PM 7 0,PO 8 (.bin false .sub (.s 0) (I6 1)),PO 9 (.ixAddr 1 (.s 2) (.s 0)),PO 10 (.load false 1 (.s 0)),VS 1 2 0]) (.ret))),[.t 1]⟩
noncomputable def ph:List (Nat × Ax):=[(63,fP),(61,OH)]
theorem ls:AR ph 63 = some fP:=rfl
theorem lu:AR ph 61 = some OH:=rfl
noncomputable def aB:Ax:=Di ph ww [.bor]
theorem AFe:AU Tryz.prog 24 aB:=AM _ rfl (AG AFV (AG qC AP)) (by kernel_rfl:Af Tryz.prog 24 ww ACV = true)
theorem AGp:aB.modes = [.bor]:=rfl
theorem ADi:aB.flat = true:=rfl
attribute [go_sem] AGp ADi ls lu
theorem ADK {kind:Int} {y_:(List UInt8)} (h:EX kind = some y_):aB.F [.int .i64 kind] = ⟨true,.str y_,[.any]⟩:=by
 refine Ay rfl ?_
 dsimp only [EX] at h
 obtain ⟨y_1,z1,h⟩:=AC h
 have fz1:=zU z1
 try simp only [go_sem] at fz1
 rcases AD h with ⟨z2,h⟩ | ⟨z2,h⟩
 ·try simp only [go_sem,n1,n2,n3,n4] at z2
  all_goals
  obtain rfl:=AB h
  refine ⟨0,fun L hL => ?_⟩
  simp only [go_sem,ww,fz1,z2]
 ·try simp only [go_sem,n1,n2,n3,n4] at z2
  all_goals
  obtain ⟨y_3,z3,h⟩:=AC h
  have fz3:=iy z3
  try simp only [go_sem,z2] at fz3
  obtain ⟨z4,h⟩:=AF h
  have lz4:=Au z4
  have xz4:=AK AV.str y_3 lz4
  try simp only [go_sem] at lz4
  try simp only [go_sem] at xz4
  try simp only [go_sem,n1,n2,n3,n4,z2] at z4
  all_goals
  obtain rfl:=AB h
  refine ⟨0,fun L hL => ?_⟩
  simp only [go_sem,ww,fz1,z2,fz3,z4,lz4,xz4]
def iF:IR:=.seq (.test false [ PM 208 34,PM 209 6,PO 210 (.len false (.s 0)),PO 211 (.bin false .lss (.s 2) (.s 0))] (.s 0) (.skip) (.exit 0)) (.seq (.block 1 (.anyo 9 [ SO 0 214 (.mov (.v 6)),SO 1 215 (.mov (.v 34)),SO 2 216 (.ixAddr 2 (.s 0) (.s 1)),SO 3 217 (.load true 2 (.s 2)),SO 4 218 (.mov (.v 8)),SO 5 219 (.mov (.v 34)),SO 6 220 (.ixAddr 2 (.s 4) (.s 5)),SO 7 221 (.load true 2 (.s 6)),SO 8 222 (.eqA true [1,1] (.s 3) (.s 7))] [] (.cond (.s 8) (.seq (.region false [ VO 1 2 (.mov (.c (.bool false)))]) (.ret)) (.skip)))) (.region false [ PM 212 34,PO 213 (.bin false
 .add (.s 0) (I6 1)),VS 34 35 0]))
def cF:List Bool:=[false,false,true,true,true,true,true,true,true,false,false,false,false,false,false,false,false,false,false,false,false,false,false,false,false,false,false,false,false,false,false,false,false,false,true,false,false,false,false]
def cE:List Bool:=[false,false,true,true,true,true,false,true,true,false,false,false,false,false,false,false,false,false,false,false,false,false,false,false,false,false,false,false,false,false,false,false,false,false,false,false,false,false,false]
def cD:List Bool:=[false,true,false,false,false,false,false,false,false,false,false,false,false,false,false,false,false,false,false,false,false,false,false,false,false,false,false,false,false,false,false,false,false,false,false,false,false,false,false]
def AGb:List Nat:=[0,2,3,4,5,6,7,8,9,10,11,12,13,14,15,16,17,18,19,20,21,22,23,24,25,26,27,28,29,30,31,32,33,34,35,36,37,38,39]
def ir3:CI:=⟨1,39,.seq (.region false [ VO 1 2 (.mov (.c (.bool false)))]) (.seq (.test false [ PM 40 0,PO 41 (.call 4 [(.s 0)])] (.s 0) (.seq (.region false [ VO 1 2 (.mov (.c (.bool true)))]) (.ret)) (.skip)) (.seq (.region false [ PM 43 0,PO 44 (.call 5 [(.s 0)]),PO 42 (.mov (.s 0)),PO 45 (.ext (.s 0) 0),PO 46 (.ext (.s 1) 1),PO 47 (.ext (.s 2) 2),PO 48 (.ext (.s 3) 3),VS 2 3 3,VS 3 4 2,VS 4 5 1,VS 5 6 0]) (.seq (.region false [ PM 50 2,PM 51 3,PM 52 4,PM 53 5,PO 54 (.call 6 [(.s 3),(.s 2),(.s 1),(.s 0)]),PO 49 (.mov (.s 0)),PO 55 (.ext (.s 0) 0),PO 56 (.ext (.s
 1) 1),VS 6 7 1,VS 7 8 0]) (.seq (.region false [ PM 58 2,PM 59 3,PM 60 4,PM 61 5,PO 62 (.call 7 [(.s 3),(.s 2),(.s 1),(.s 0)]),PO 57 (.mov (.s 0)),PO 63 (.ext (.s 0) 0),PO 64 (.ext (.s 1) 1),VS 8 9 1,VS 9 10 0]) (.seq (.region false [ PM 66 0,PO 67 (.call 8 [(.s 0)]),PO 65 (.mov (.s 0)),PO 68 (.ext (.s 0) 0),PO 69 (.ext (.s 1) 1),VS 10 11 1,VS 11 12 0]) (.seq (.region false [ PM 71 10,PM 72 11,PO 73 (.call 9 [(.s 1),(.s 0)]),PO 70 (.mov (.s 0)),PO 74 (.ext (.s 0) 0),PO 75 (.ext (.s 1) 1),VS 12 13 1,VS 13 14 0]) (.seq (.region false [ PM 77 10,PM 78 11,PO 79 (.call
 10 [(.s 1),(.s 0)]),PO 76 (.mov (.s 0)),PO 80 (.ext (.s 0) 0),PO 81 (.ext (.s 1) 1),VS 14 15 1,VS 15 16 0]) (.seq (.region false [ PM 83 10,PM 84 11,PO 85 (.call 11 [(.s 1),(.s 0)]),PO 82 (.mov (.s 0)),PO 86 (.ext (.s 0) 0),PO 87 (.ext (.s 1) 1),VS 16 17 1,VS 17 18 0]) (.seq (.region false [ PM 89 10,PM 90 11,PO 91 (.call 12 [(.s 1),(.s 0)]),PO 88 (.mov (.s 0)),PO 92 (.ext (.s 0) 0),PO 93 (.ext (.s 1) 1),VS 18 19 1,VS 19 20 0]) (.seq (.region false [ PM 95 10,PM 96 11,PO 97 (.call 13 [(.s 1),(.s 0)]),PO 94 (.mov (.s 0)),PO 98 (.ext (.s 0) 0),PO 99 (.ext (.s 1) 1),
 VS 20 21 1,VS 21 22 0]) (.seq (.region false [ PM 101 10,PM 102 11,PO 103 (.call 14 [(.s 1),(.s 0)]),PO 100 (.mov (.s 0)),PO 104 (.ext (.s 0) 0),PO 105 (.ext (.s 1) 1),VS 22 23 1,VS 23 24 0]) (.seq (.region false [ PM 106 0,PO 107 (.call 15 [(.s 0)]),VS 24 25 0]) (.seq (.region false [ PM 108 0,PO 109 (.call 16 [(.s 0)]),VO 25 26 (.alloc (.agg [.int .i64 (0),.int .i64 (0)])),⟨.no,0,none,.store 2 (.v 25) (.s 0)⟩]) (.seq (.region false [ PO 110 (.load true 2 (.v 25)),PO 111 (.call 17 [(.s 0)]),VS 26 27 0]) (.seq (.region false [ PM 113 26,PO 114 (.call 18 [(.s 0)]),PO 112
 (.mov (.s 0)),PO 115 (.ext (.s 0) 0),PO 116 (.ext (.s 1) 1),VO 27 28 (.alloc (.agg [.int .i64 (0),.int .i64 (0)])),⟨.no,0,none,.store 2 (.v 27) (.s 1)⟩,VS 28 29 0]) (.seq (.region false [ PM 117 0,PO 118 (.call 19 [(.s 0)]),VS 29 30 0]) (.seq (.region false [ PM 120 29,PO 121 (.call 18 [(.s 0)]),PO 119 (.mov (.s 0)),PO 122 (.ext (.s 0) 0),PO 123 (.ext (.s 1) 1),VO 30 31 (.alloc (.agg [.int .i64 (0),.int .i64 (0)])),⟨.no,0,none,.store 2 (.v 30) (.s 1)⟩,VS 31 32 0]) (.seq (.region false [ PM 125 29,PO 126 (.call 20 [(.s 0)]),PO 124 (.mov (.s 0)),PO 127 (.ext (.s 0) 0),
 PO 128 (.ext (.s 1) 1),VO 32 33 (.alloc (.agg [.int .i64 (0),.int .i64 (0)])),⟨.no,0,none,.store 2 (.v 32) (.s 1)⟩,VS 33 34 0]) (.seq (.test false [ PM 129 7,PM 130 9,PO 131 (.bin false .neq (.s 1) (.s 0)),PO 132 (.mov (.s 0)),⟨.push,133,(some ((.s 0),false)),.mov (.v 6)⟩,⟨.push,134,(some ((.s 1),false)),.len false (.s 0)⟩,⟨.push,135,(some ((.s 2),false)),.mov (.v 8)⟩,⟨.push,136,(some ((.s 3),false)),.len false (.s 0)⟩,⟨.push,137,(some ((.s 4),false)),.bin false .neq (.s 2) (.s 0)⟩,PO 138 (.pick (.s 5) (.c (.bool true)) (.s 0)),PO 139 (.mov (.s 0)),⟨.push,
 140,(some ((.s 0),false)),.mov (.v 13)⟩,⟨.push,141,(some ((.s 1),false)),.mov (.v 15)⟩,⟨.push,142,(some ((.s 2),false)),.bin false .neq (.s 1) (.s 0)⟩,PO 143 (.pick (.s 3) (.c (.bool true)) (.s 0)),PO 144 (.mov (.s 0)),⟨.push,145,(some ((.s 0),false)),.mov (.v 12)⟩,⟨.push,146,(some ((.s 1),false)),.mov (.v 14)⟩,⟨.push,147,(some ((.s 2),false)),.call 21 [(.s 1),(.s 0)]⟩,⟨.push,148,(some ((.s 3),false)),.un .not (.s 0)⟩,PO 149 (.pick (.s 4) (.c (.bool true)) (.s 0)),PO 150 (.mov (.s 0)),⟨.push,151,(some ((.s 0),false)),.mov (.v 17)⟩,⟨.push,152,(some
 ((.s 1),false)),.mov (.v 19)⟩,⟨.push,153,(some ((.s 2),false)),.bin false .neq (.s 1) (.s 0)⟩,PO 154 (.pick (.s 3) (.c (.bool true)) (.s 0)),PO 155 (.mov (.s 0)),⟨.push,156,(some ((.s 0),false)),.mov (.v 16)⟩,⟨.push,157,(some ((.s 1),false)),.mov (.v 18)⟩,⟨.push,158,(some ((.s 2),false)),.call 22 [(.s 1),(.s 0)]⟩,⟨.push,159,(some ((.s 3),false)),.un .not (.s 0)⟩,PO 160 (.pick (.s 4) (.c (.bool true)) (.s 0)),PO 161 (.mov (.s 0)),⟨.push,162,(some ((.s 0),false)),.mov (.v 21)⟩,⟨.push,163,(some ((.s 1),false)),.mov (.v 23)⟩,⟨.push,164,(some ((.s 2),
 false)),.bin false .neq (.s 1) (.s 0)⟩,PO 165 (.pick (.s 3) (.c (.bool true)) (.s 0)),PO 166 (.mov (.s 0)),⟨.push,167,(some ((.s 0),false)),.mov (.v 20)⟩,⟨.push,168,(some ((.s 1),false)),.mov (.v 22)⟩,⟨.push,169,(some ((.s 2),false)),.bin false .neq (.s 1) (.s 0)⟩,PO 170 (.pick (.s 3) (.c (.bool true)) (.s 0)),PO 171 (.mov (.s 0)),⟨.push,172,(some ((.s 0),false)),.mov (.v 24)⟩,⟨.push,173,(some ((.s 1),false)),.call 23 [(.s 0)]⟩,⟨.push,174,(some ((.s 2),false)),.mov (.v 24)⟩,⟨.push,175,(some ((.s 3),false)),.call 24 [(.s 0)]⟩,⟨.push,176,(some ((.s 4),
 false)),.bin false .neq (.s 2) (.s 0)⟩,PO 177 (.pick (.s 5) (.c (.bool true)) (.s 0)),PO 178 (.mov (.s 0)),⟨.push,179,(some ((.s 0),false)),.mov (.v 26)⟩,⟨.push,180,(some ((.s 1),false)),.load true 2 (.v 25)⟩,⟨.push,181,(some ((.s 2),false)),.call 25 [(.s 0)]⟩,⟨.push,182,(some ((.s 3),false)),.bin false .neq (.s 2) (.s 0)⟩,PO 183 (.pick (.s 4) (.c (.bool true)) (.s 0)),PO 184 (.mov (.s 0)),⟨.push,185,(some ((.s 0),false)),.mov (.v 28)⟩,⟨.push,186,(some ((.s 1),false)),.mov (.v 26)⟩,⟨.push,187,(some ((.s 2),false)),.bin false .neq (.s 0) (.c (.str []))⟩,
 ⟨.push,188,(some ((.s 3),false)),.bin true .neq (.s 2) (.s 0)⟩,PO 189 (.pick (.s 4) (.c (.bool true)) (.s 0)),PO 190 (.mov (.s 0)),⟨.push,191,(some ((.s 0),false)),.mov (.v 28)⟩,⟨.push,192,(some ((.s 1),false)),.mov (.s 0)⟩,⟨.push,193,(some ((.s 0),true)),.load true 2 (.v 27)⟩,⟨.push,194,(some ((.s 1),true)),.load true 2 (.v 25)⟩,⟨.push,195,(some ((.s 2),true)),.eqA true [1,1] (.s 1) (.s 0)⟩,⟨.push,196,(some ((.s 5),false)),.pick (.s 3) (.s 0) (.c (.bool false))⟩,PO 197 (.pick (.s 6) (.c (.bool true)) (.s 0)),PO 198 (.mov (.s 0)),⟨.push,199,(some ((.s
 0),false)),.mov (.v 31)⟩,⟨.push,200,(some ((.s 1),false)),.mov (.v 33)⟩,⟨.push,201,(some ((.s 2),false)),.bin true .neq (.s 1) (.s 0)⟩,PO 202 (.pick (.s 3) (.c (.bool true)) (.s 0)),PO 203 (.mov (.s 0)),⟨.push,204,(some ((.s 0),false)),.load true 2 (.v 30)⟩,⟨.push,205,(some ((.s 1),false)),.load true 2 (.v 32)⟩,⟨.push,206,(some ((.s 2),false)),.eqA true [1,1] (.s 1) (.s 0)⟩,PO 207 (.pick (.s 3) (.c (.bool true)) (.s 0))] (.s 0) (.seq (.region false [ VO 1 2 (.mov (.c (.bool false)))]) (.ret)) (.skip)) (.seq (.seq (.region false [ VO 34 35 (.mov (I6 0))]) (.block
 0 (.loop cF cE cD iF))) (.seq (.test false [ PM 223 7,PO 224 (.bin false .neq (.s 0) (I6 0))] (.s 0) (.seq (.region false [ VO 1 2 (.mov (.c (.bool true)))]) (.ret)) (.skip)) (.seq (.region false [ PM 226 2,PM 227 8,PO 228 (.call 9 [(.s 1),(.s 0)]),PO 225 (.mov (.s 0)),PO 229 (.ext (.s 0) 0),PO 230 (.ext (.s 1) 1),VS 35 36 1,VS 36 37 0]) (.seq (.region false [ PM 232 35,PM 233 3,PM 234 4,PM 235 5,PO 236 (.call 6 [(.s 3),(.s 2),(.s 1),(.s 0)]),PO 231 (.mov (.s 0)),PO 237 (.ext (.s 0) 0),PO 238 (.ext (.s 1) 1),VS 37 38 1,VS 38 39 0]) (.seq (.region false [ PM
 239 36,PO 240 (.bin false .eql (.s 0) (I6 0)),PO 241 (.mov (.s 0)),⟨.push,242,(some ((.s 0),true)),.mov (.v 38)⟩,⟨.push,243,(some ((.s 1),true)),.bin false .eql (.s 0) (I6 0)⟩,PO 244 (.pick (.s 2) (.s 0) (.c (.bool false))),PO 245 (.mov (.s 0)),⟨.push,246,(some ((.s 0),true)),.mov (.v 37)⟩,⟨.push,247,(some ((.s 1),true)),.len false (.s 0)⟩,⟨.push,248,(some ((.s 2),true)),.bin false .eql (.s 0) (I6 0)⟩,PO 249 (.pick (.s 3) (.s 0) (.c (.bool false))),VS 1 2 0]) (.ret))))))))))))))))))))))))),[.t 1]⟩
noncomputable def Av:List (Nat × Ax):=[(4,c_0),(5,oj),(6,oJ),(7,ny),(8,nu),(9,nl),(10,nk),(11,aY),(12,aS),(13,aQ),(14,aP),(15,aO),(16,TS),(17,TP),(18,aK),(19,aH),(20,aE),(21,aD),(22,aC),(23,TQ),(24,aB),(25,TN)]
theorem Om:AR Av 4 = some c_0:=rfl
theorem Ol:AR Av 5 = some oj:=rfl
theorem Ok:AR Av 6 = some oJ:=rfl
theorem Oj:AR Av 7 = some ny:=rfl
theorem Oi:AR Av 8 = some nu:=rfl
theorem Oh:AR Av 9 = some nl:=rfl
theorem Nz:AR Av 10 = some nk:=rfl
theorem Ny:AR Av 11 = some aY:=rfl
theorem Nx:AR Av 12 = some aS:=rfl
theorem Nw:AR Av 13 = some aQ:=rfl
theorem Nv:AR Av 14 = some aP:=rfl
theorem Nu:AR Av 15 = some aO:=rfl
theorem Nt:AR Av 16 = some TS:=rfl
theorem Ns:AR Av 17 = some TP:=rfl
theorem Nr:AR Av 18 = some aK:=rfl
theorem Nq:AR Av 19 = some aH:=rfl
theorem Np:AR Av 20 = some aE:=rfl
theorem Nn:AR Av 21 = some aD:=rfl
theorem Nm:AR Av 22 = some aC:=rfl
theorem Nl:AR Av 23 = some TQ:=rfl
theorem Nk:AR Av 24 = some aB:=rfl
theorem Nj:AR Av 25 = some TN:=rfl
noncomputable def Hs:Ax:=Di Av ir3 [.bor]
theorem Ta:AU Tryz.prog 3 Hs:=AM _ rfl (AG s_0 (AG s_35 (AG s_68 (AG s_78 (AG s_83 (AG s_91 (AG s_94 (AG AGE (AG AFy (AG AFw (AG AFv (AG AFu (AG yz (AG yw (AG AFp (AG AFk (AG AFh (AG AFg (AG AFf (AG yx (AG AFe (AG yu AP)))))))))))))))))))))) (by kernel_rfl:Af Tryz.prog 3 ir3 AGb = true)
theorem MV:Hs.modes = [.bor]:=rfl
theorem Sr:Hs.flat = true:=rfl
attribute [go_sem] MV Sr Om Ol Ok Oj Oi Oh Nz Ny Nx Nw Nv Nu Nt Ns Nr Nq Np Nn Nm Nl Nk Nj
def GK (list:List AA) (stars:List Star) (observers:List Observer) (margin:Int) (faults:List AJ) (bad:Int) (model:List AJ):Int → St
 | i => ⟨[.any,.any,.own 3200000,.own 3200032,.own 3200064,.int .i64 margin,.own 3200096,.int .i64 bad,.own 3200128,.any,.any,.any,.any,.any,.any,.any,.any,.any,.any,.any,.any,.any,.any,.any,.any,.any,.any,.any,.any,.any,.any,.any,.any,.any,.int .i64 i,.any,.any,.any,.any],[],[(3200000,⟨5,List.map AE list⟩),(3200032,⟨5,List.map Al stars⟩),(3200064,⟨2,List.map AX observers⟩),(3200096,⟨2,List.map Ae faults⟩),(3200128,⟨2,List.map Ae model⟩)],true⟩
def GH (list:List AA) (stars:List Star) (observers:List Observer) (margin:Int) (faults:List AJ) (bad:Int) (model:List AJ):(Unit ⊕ Bool) → EB
 | .inl y => (.exit 0,⟨[.any,.any,.own 3200000,.own 3200032,.own 3200064,.int .i64 margin,.any,.int .i64 bad,.own 3200096,.any,.any,.any,.any,.any,.any,.any,.any,.any,.any,.any,.any,.any,.any,.any,.any,.any,.any,.any,.any,.any,.any,.any,.any,.any,.any,.any,.any,.any,.any],[],[(3200000,⟨5,List.map AE list⟩),(3200032,⟨5,List.map Al stars⟩),(3200064,⟨2,List.map AX observers⟩),(3200096,⟨2,List.map Ae model⟩)],true⟩)
 | .inr y => (.ret,⟨[.any,.bool y,.any,.any,.any,.any,.any,.any,.any,.any,.any,.any,.any,.any,.any,.any,.any,.any,.any,.any,.any,.any,.any,.any,.any,.any,.any,.any,.any,.any,.any,.any,.any,.any,.any,.any,.any,.any,.any],[],[],true⟩)
set_option maxHeartbeats 64000000 in
attribute [local go_sem] ir3 GK GH iF cF cE cD in
theorem OA {list:List AA} {stars:List Star} {observers:List Observer} {margin:Int} {faults:List AJ} {bad:Int} {model:List AJ} {sgm_:Int} {rho_:Unit ⊕ Bool} (h:AL (EQ list stars observers margin faults bad model) sgm_ = some rho_):∃ L0,∀ L,L0 ≤ L → Bk (Az (AR Av) L iF) cF cE cD L (GK list stars observers margin faults bad model sgm_) = GH list stars observers margin faults bad model rho_:=by
 refine As (E:=GK list stars observers margin faults bad model) (R:=GH list stars observers margin faults bad model) (fun y => by first | (intro c; cases c) | (rcases y with y | y <;> (intro c; cases c)) | (rcases y with y | y | y <;> (intro c; cases c))) ?_ h
 clear h
 intro i o_ h
 dsimp only [EQ] at h
 rcases AD h with ⟨z26,h⟩ | ⟨z26,h⟩
 ·try simp only [go_sem,n1,n2,n3,n4] at z26
  all_goals
  obtain ⟨z27,h⟩:=AF h
  have lz27:=Au z27
  have xz27:=AK Ae faults lz27
  try simp only [go_sem] at lz27
  try simp only [go_sem] at xz27
  try simp only [go_sem,n1,n2,n3,n4,z26] at z27
  all_goals
  obtain ⟨z28,h⟩:=AF h
  have lz28:=Au z28
  have xz28:=AK Ae model lz28
  try simp only [go_sem] at lz28
  try simp only [go_sem] at xz28
  try simp only [go_sem,n1,n2,n3,n4,z26,z27] at z28
  all_goals
  rcases AD h with ⟨z29,h⟩ | ⟨z29,h⟩
  all_goals
  try simp only [go_sem,n1,n2,n3,n4,z26,z27,z28] at z29
  all_goals
  obtain rfl:=AB h
  refine ⟨0,fun L hL => ?_⟩
  simp only [go_sem,z26,z27,lz27,xz27,z28,lz28,xz28,z29]
 ·try simp only [go_sem,n1,n2,n3,n4] at z26
  all_goals
  obtain rfl:=AB h
  refine ⟨0,fun L hL => ?_⟩
  simp only [go_sem,z26]
set_option maxHeartbeats 64000000 in
attribute [local go_sem] ir3 GK GH cF cE cD in
theorem Sq {code:List UInt8} {y_:Bool} (h:JW code = some y_):Hs.F [.sl 1 (List.map Co code)] = ⟨true,.bool y_,[.any]⟩:=by
 refine Ay rfl ?_
 dsimp only [JW] at h
 obtain ⟨y_1,z1,h⟩:=AC h
 have fz1:=Fs_0 z1
 try simp only [go_sem] at fz1
 rcases AD h with ⟨z2,h⟩ | ⟨z2,h⟩
 ·try simp only [go_sem,n1,n2,n3,n4] at z2
  all_goals
  obtain rfl:=AB h
  refine ⟨0,fun L hL => ?_⟩
  simp only [go_sem,fz1,z2]
 ·try simp only [go_sem,n1,n2,n3,n4] at z2
  all_goals
  obtain ⟨y_3,z3,h⟩:=AC h
  have fz3:=AIS z3
  try simp only [go_sem,z2] at fz3
  obtain ⟨y_4,z4,h⟩:=AC h
  have fz4:=zW z4
  try simp only [go_sem,z2] at fz4
  obtain ⟨y_5,z5,h⟩:=AC h
  have fz5:=AHm z5
  try simp only [go_sem,z2] at fz5
  obtain ⟨y_6,z6,h⟩:=AC h
  have fz6:=AHi z6
  try simp only [go_sem,z2] at fz6
  obtain ⟨y_7,z7,h⟩:=AC h
  have fz7:=zR z7
  try simp only [go_sem,z2] at fz7
  obtain ⟨y_8,z8,h⟩:=AC h
  have fz8:=AHc z8
  try simp only [go_sem,z2] at fz8
  obtain ⟨y_9,z9,h⟩:=AC h
  have fz9:=ADf z9
  try simp only [go_sem,z2] at fz9
  obtain ⟨y_10,z10,h⟩:=AC h
  have fz10:=ADa z10
  try simp only [go_sem,z2] at fz10
  obtain ⟨y_11,z11,h⟩:=AC h
  have fz11:=ADY z11
  try simp only [go_sem,z2] at fz11
  obtain ⟨y_12,z12,h⟩:=AC h
  have fz12:=ADX z12
  try simp only [go_sem,z2] at fz12
  obtain ⟨y_13,z13,h⟩:=AC h
  have fz13:=ADW z13
  try simp only [go_sem,z2] at fz13
  obtain ⟨y_14,z14,h⟩:=AC h
  have fz14:=vA z14
  try simp only [go_sem,z2] at fz14
  obtain ⟨y_15,z15,h⟩:=AC h
  have fz15:=ux z15
  try simp only [go_sem,z2] at fz15
  obtain ⟨y_16,z16,h⟩:=AC h
  have fz16:=uw z16
  try simp only [go_sem,z2] at fz16
  obtain ⟨y_17,z17,h⟩:=AC h
  have fz17:=ADQ z17
  try simp only [go_sem,z2] at fz17
  obtain ⟨y_18,z18,h⟩:=AC h
  have fz18:=uw z18
  try simp only [go_sem,z2] at fz18
  obtain ⟨y_19,z19,h⟩:=AC h
  have fz19:=ADN z19
  try simp only [go_sem,z2] at fz19
  obtain ⟨z20,h⟩:=AF h
  rcases Ab z20 with ⟨gz20,z20⟩ | gz20
  ·try simp only [go_sem,n1,n2,n3,n4,z2] at gz20
   all_goals
   obtain ⟨y_20,hz20⟩:=Option.isSome_iff_exists.1 z20
   have fz20:=ADM hz20
   try simp only [go_sem,n1,n2,n3,n4,z2,gz20] at hz20
   all_goals
   try simp only [go_sem,z2,gz20] at fz20
   obtain ⟨z21,h⟩:=AF h
   rcases Ab z21 with ⟨gz21,z21⟩ | gz21
   ·try simp only [go_sem,n1,n2,n3,n4,z2,gz20,hz20] at gz21
    all_goals
    obtain ⟨y_21,hz21⟩:=Option.isSome_iff_exists.1 z21
    have fz21:=ADL hz21
    try simp only [go_sem,n1,n2,n3,n4,z2,gz20,hz20,gz21] at hz21
    all_goals
    try simp only [go_sem,z2,gz20,hz20,gz21] at fz21
    obtain ⟨z22,h⟩:=AF h
    rcases Ab z22 with ⟨gz22,z22⟩ | gz22
    ·try simp only [go_sem,n1,n2,n3,n4,z2,gz20,hz20,gz21,hz21] at gz22
     all_goals
     obtain ⟨y_22,hz22⟩:=Option.isSome_iff_exists.1 z22
     have fz22:=uy hz22
     try simp only [go_sem,n1,n2,n3,n4,z2,gz20,hz20,gz21,hz21,gz22] at hz22
     all_goals
     try simp only [go_sem,z2,gz20,hz20,gz21,hz21,gz22] at fz22
     obtain ⟨z23,h⟩:=AF h
     rcases Ab z23 with ⟨gz23,z23⟩ | gz23
     ·try simp only [go_sem,n1,n2,n3,n4,z2,gz20,hz20,gz21,hz21,gz22,hz22] at gz23
      all_goals
      obtain ⟨y_23,hz23⟩:=Option.isSome_iff_exists.1 z23
      have fz23:=ADK hz23
      try simp only [go_sem,n1,n2,n3,n4,z2,gz20,hz20,gz21,hz21,gz22,hz22,gz23] at hz23
      all_goals
      try simp only [go_sem,z2,gz20,hz20,gz21,hz21,gz22,hz22,gz23] at fz23
      obtain ⟨z24,h⟩:=AF h
      rcases Ab z24 with ⟨gz24,z24⟩ | gz24
      ·try simp only [go_sem,n1,n2,n3,n4,z2,gz20,hz20,gz21,hz21,gz22,hz22,gz23,hz23] at gz24
       all_goals
       obtain ⟨y_24,hz24⟩:=Option.isSome_iff_exists.1 z24
       have fz24:=uu hz24
       try simp only [go_sem,n1,n2,n3,n4,z2,gz20,hz20,gz21,hz21,gz22,hz22,gz23,hz23,gz24] at hz24
       all_goals
       try simp only [go_sem,z2,gz20,hz20,gz21,hz21,gz22,hz22,gz23,hz23,gz24] at fz24
       rcases AD h with ⟨z25,h⟩ | ⟨z25,h⟩
       ·try simp only [go_sem,n1,n2,n3,n4,z2,gz20,hz20,gz21,hz21,gz22,hz22,gz23,hz23,gz24,hz24] at z25
        all_goals
        obtain rfl:=AB h
        refine ⟨0,fun L hL => ?_⟩
        simp only [go_sem,fz1,z2,fz3,fz4,fz5,fz6,fz7,fz8,fz9,fz10,fz11,fz12,fz13,fz14,fz15,fz16,fz17,fz18,fz19,gz20,hz20,fz20,gz21,hz21,fz21,gz22,hz22,fz22,gz23,hz23,fz23,gz24,hz24,fz24,z25]
       ·try simp only [go_sem,n1,n2,n3,n4,z2,gz20,hz20,gz21,hz21,gz22,hz22,gz23,hz23,gz24,hz24] at z25
        all_goals
        obtain ⟨y_30,z30,h⟩:=AC h
        obtain ⟨Lz30,ez30⟩:=OA z30
        rcases y_30 with y_30a | y_30b
        ·dsimp only at h
         rcases AD h with ⟨z31,h⟩ | ⟨z31,h⟩
         ·try simp only [go_sem,n1,n2,n3,n4,z2,gz20,hz20,gz21,hz21,gz22,hz22,gz23,hz23,gz24,hz24,z25] at z31
          all_goals
          obtain rfl:=AB h
          refine ⟨Lz30,fun L hL => ?_⟩
          have ez30:=ez30 L (by omega)
          try simp only [go_sem,z2,gz20,hz20,gz21,hz21,gz22,hz22,gz23,hz23,gz24,hz24,z25,z31] at ez30
          simp only [go_sem,fz1,z2,fz3,fz4,fz5,fz6,fz7,fz8,fz9,fz10,fz11,fz12,fz13,fz14,fz15,fz16,fz17,fz18,fz19,gz20,hz20,fz20,gz21,hz21,fz21,gz22,hz22,fz22,gz23,hz23,fz23,gz24,hz24,fz24,z25,z31,ez30]
         ·try simp only [go_sem,n1,n2,n3,n4,z2,gz20,hz20,gz21,hz21,gz22,hz22,gz23,hz23,gz24,hz24,z25] at z31
          all_goals
          obtain ⟨y_32,z32,h⟩:=AC h
          have fz32:=zR z32
          try simp only [go_sem,z2,gz20,hz20,gz21,hz21,gz22,hz22,gz23,hz23,gz24,hz24,z25,z31] at fz32
          obtain ⟨y_33,z33,h⟩:=AC h
          have fz33:=zW z33
          try simp only [go_sem,z2,gz20,hz20,gz21,hz21,gz22,hz22,gz23,hz23,gz24,hz24,z25,z31] at fz33
          obtain rfl:=AB h
          refine ⟨Lz30,fun L hL => ?_⟩
          have ez30:=ez30 L (by omega)
          try simp only [go_sem,z2,gz20,hz20,gz21,hz21,gz22,hz22,gz23,hz23,gz24,hz24,z25,z31] at ez30
          simp only [go_sem,fz1,z2,fz3,fz4,fz5,fz6,fz7,fz8,fz9,fz10,fz11,fz12,fz13,fz14,fz15,fz16,fz17,fz18,fz19,gz20,hz20,fz20,gz21,hz21,fz21,gz22,hz22,fz22,gz23,hz23,fz23,gz24,hz24,fz24,z25,z31,fz32,fz33,ez30]
        ·dsimp only at h
         obtain rfl:=AB h
         refine ⟨Lz30,fun L hL => ?_⟩
         have ez30:=ez30 L (by omega)
         try simp only [go_sem,z2,gz20,hz20,gz21,hz21,gz22,hz22,gz23,hz23,gz24,hz24,z25] at ez30
         simp only [go_sem,fz1,z2,fz3,fz4,fz5,fz6,fz7,fz8,fz9,fz10,fz11,fz12,fz13,fz14,fz15,fz16,fz17,fz18,fz19,gz20,hz20,fz20,gz21,hz21,fz21,gz22,hz22,fz22,gz23,hz23,fz23,gz24,hz24,fz24,z25,ez30]
      ·have gz24n:=DT gz24
       try simp only [go_sem,n1,n2,n3,n4,z2,gz20,hz20,gz21,hz21,gz22,hz22,gz23,hz23] at gz24n
       all_goals
       rcases AD h with ⟨z25,h⟩ | ⟨z25,h⟩
       ·try simp only [go_sem,n1,n2,n3,n4,z2,gz20,hz20,gz21,hz21,gz22,hz22,gz23,hz23,gz24n] at z25
        all_goals
        obtain rfl:=AB h
        refine ⟨0,fun L hL => ?_⟩
        simp only [go_sem,fz1,z2,fz3,fz4,fz5,fz6,fz7,fz8,fz9,fz10,fz11,fz12,fz13,fz14,fz15,fz16,fz17,fz18,fz19,gz20,hz20,fz20,gz21,hz21,fz21,gz22,hz22,fz22,gz23,hz23,fz23,gz24n,z25]
       ·try simp only [go_sem,n1,n2,n3,n4,z2,gz20,hz20,gz21,hz21,gz22,hz22,gz23,hz23,gz24n] at z25
        all_goals
        (simp_all)
     ·have gz23n:=DT gz23
      try simp only [go_sem,n1,n2,n3,n4,z2,gz20,hz20,gz21,hz21,gz22,hz22] at gz23n
      all_goals
      obtain ⟨z24,h⟩:=AF h
      rcases AD h with ⟨z25,h⟩ | ⟨z25,h⟩
      ·try simp only [go_sem,n1,n2,n3,n4,z2,gz20,hz20,gz21,hz21,gz22,hz22,gz23n] at z25
       all_goals
       obtain rfl:=AB h
       refine ⟨0,fun L hL => ?_⟩
       simp only [go_sem,fz1,z2,fz3,fz4,fz5,fz6,fz7,fz8,fz9,fz10,fz11,fz12,fz13,fz14,fz15,fz16,fz17,fz18,fz19,gz20,hz20,fz20,gz21,hz21,fz21,gz22,hz22,fz22,gz23n,z25]
      ·try simp only [go_sem,n1,n2,n3,n4,z2,gz20,hz20,gz21,hz21,gz22,hz22,gz23n] at z25
       all_goals
       (simp_all)
    ·have gz22n:=DT gz22
     try simp only [go_sem,n1,n2,n3,n4,z2,gz20,hz20,gz21,hz21] at gz22n
     all_goals
     obtain ⟨z23,h⟩:=AF h
     obtain ⟨z24,h⟩:=AF h
     rcases AD h with ⟨z25,h⟩ | ⟨z25,h⟩
     ·try simp only [go_sem,n1,n2,n3,n4,z2,gz20,hz20,gz21,hz21,gz22n] at z25
      all_goals
      obtain rfl:=AB h
      refine ⟨0,fun L hL => ?_⟩
      simp only [go_sem,fz1,z2,fz3,fz4,fz5,fz6,fz7,fz8,fz9,fz10,fz11,fz12,fz13,fz14,fz15,fz16,fz17,fz18,fz19,gz20,hz20,fz20,gz21,hz21,fz21,gz22n,z25]
     ·try simp only [go_sem,n1,n2,n3,n4,z2,gz20,hz20,gz21,hz21,gz22n] at z25
      all_goals
      (simp_all)
   ·have gz21n:=DT gz21
    try simp only [go_sem,n1,n2,n3,n4,z2,gz20,hz20] at gz21n
    all_goals
    obtain ⟨z22,h⟩:=AF h
    obtain ⟨z23,h⟩:=AF h
    obtain ⟨z24,h⟩:=AF h
    rcases AD h with ⟨z25,h⟩ | ⟨z25,h⟩
    ·try simp only [go_sem,n1,n2,n3,n4,z2,gz20,hz20,gz21n] at z25
     all_goals
     obtain rfl:=AB h
     refine ⟨0,fun L hL => ?_⟩
     simp only [go_sem,fz1,z2,fz3,fz4,fz5,fz6,fz7,fz8,fz9,fz10,fz11,fz12,fz13,fz14,fz15,fz16,fz17,fz18,fz19,gz20,hz20,fz20,gz21n,z25]
    ·try simp only [go_sem,n1,n2,n3,n4,z2,gz20,hz20,gz21n] at z25
     all_goals
     (simp_all)
  ·have gz20n:=DT gz20
   rcases gU gz20n with gz20na | ⟨gz20na,gz20nb⟩
   ·rcases gU gz20na with gz20naa | ⟨gz20naa,gz20nab⟩
    ·have gz20naan:=Ha gz20naa
     try simp only [go_sem,n1,n2,n3,n4,z2] at gz20naan
     all_goals
     obtain ⟨z21,h⟩:=AF h
     obtain ⟨z22,h⟩:=AF h
     obtain ⟨z23,h⟩:=AF h
     obtain ⟨z24,h⟩:=AF h
     rcases AD h with ⟨z25,h⟩ | ⟨z25,h⟩
     ·try simp only [go_sem,n1,n2,n3,n4,z2,gz20naan] at z25
      all_goals
      obtain rfl:=AB h
      refine ⟨0,fun L hL => ?_⟩
      simp only [go_sem,fz1,z2,fz3,fz4,fz5,fz6,fz7,fz8,fz9,fz10,fz11,fz12,fz13,fz14,fz15,fz16,fz17,fz18,fz19,gz20naan,z25]
     ·try simp only [go_sem,n1,n2,n3,n4,z2,gz20naan] at z25
      all_goals
      (simp_all)
    ·have gz20naan:=DT gz20naa
     have gz20nabn:=Ha gz20nab
     try simp only [go_sem,n1,n2,n3,n4,z2] at gz20naan
     all_goals
     try simp only [go_sem,n1,n2,n3,n4,z2,gz20naan] at gz20nabn
     all_goals
     obtain ⟨z21,h⟩:=AF h
     obtain ⟨z22,h⟩:=AF h
     obtain ⟨z23,h⟩:=AF h
     obtain ⟨z24,h⟩:=AF h
     rcases AD h with ⟨z25,h⟩ | ⟨z25,h⟩
     ·try simp only [go_sem,n1,n2,n3,n4,z2,gz20naan,gz20nabn] at z25
      all_goals
      obtain rfl:=AB h
      refine ⟨0,fun L hL => ?_⟩
      simp only [go_sem,fz1,z2,fz3,fz4,fz5,fz6,fz7,fz8,fz9,fz10,fz11,fz12,fz13,fz14,fz15,fz16,fz17,fz18,fz19,gz20naan,gz20nabn,z25]
     ·try simp only [go_sem,n1,n2,n3,n4,z2,gz20naan,gz20nabn] at z25
      all_goals
      (simp_all)
   ·obtain ⟨gz20naa,gz20nab⟩:=or_f gz20na
    have gz20naan:=DT gz20naa
    have gz20nabn:=DT gz20nab
    have gz20nbn:=Ha gz20nb
    try simp only [go_sem,n1,n2,n3,n4,z2] at gz20naan
    all_goals
    try simp only [go_sem,n1,n2,n3,n4,z2,gz20naan] at gz20nabn
    all_goals
    try simp only [go_sem,n1,n2,n3,n4,z2,gz20naan,gz20nabn] at gz20nbn
    all_goals
    obtain ⟨z21,h⟩:=AF h
    obtain ⟨z22,h⟩:=AF h
    obtain ⟨z23,h⟩:=AF h
    obtain ⟨z24,h⟩:=AF h
    rcases AD h with ⟨z25,h⟩ | ⟨z25,h⟩
    ·try simp only [go_sem,n1,n2,n3,n4,z2,gz20naan,gz20nabn,gz20nbn] at z25
     all_goals
     obtain rfl:=AB h
     refine ⟨0,fun L hL => ?_⟩
     simp only [go_sem,fz1,z2,fz3,fz4,fz5,fz6,fz7,fz8,fz9,fz10,fz11,fz12,fz13,fz14,fz15,fz16,fz17,fz18,fz19,gz20naan,gz20nabn,gz20nbn,z25]
    ·try simp only [go_sem,n1,n2,n3,n4,z2,gz20naan,gz20nabn,gz20nbn] at z25
     all_goals
     (simp_all)
end Go.Proofs.YtfaenphcgfocnaaGreatDoor
