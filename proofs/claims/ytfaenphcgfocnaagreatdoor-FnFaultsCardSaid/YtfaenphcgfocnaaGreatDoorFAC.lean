/- Codes and contracts of the functions that FA reaches, and that their typed forms say what they do. No condition. -/
import Derived.Test.YtfaenphcgfocnaaGreatDoorFAT
import Derived.Test.YtfaenphcgfocnaaGreatDoorEngSCut
import Derived.Test.YtfaenphcgfocnaaGreatDoorEngSF
import Derived.Test.YtfaenphcgfocnaaGreatDoorEngSG
import Derived.Test.YtfaenphcgfocnaaGreatDoorEngSRd
import Derived.Test.YtfaenphcgfocnaaGreatDoorRows
import Derived.WalkKit
namespace Go.Proofs.YtfaenphcgfocnaaGreatDoor
open Go Go.RowKit
set_option linter.unusedVariables false
set_option linter.unusedSimpArgs false
set_option maxRecDepth 10000
def AGa:List Nat:=[0,2]
def ir4:CI:=⟨1,2,.seq (.region false [ VO 1 2 (.mov (.c (.bool false)))]) (.seq (.region false [ PM 3 0,PO 4 (.len false (.s 0)),PO 5 (.bin false .gtr (.s 0) (I6 4096)),VS 1 2 0]) (.ret)),[.t 1]⟩
noncomputable def t_0:List (Nat × Ax):=[]
noncomputable def c_0:Ax:=Di t_0 ir4 [.bor]
theorem s_0:AU Tryz.prog 4 c_0:=AM _ rfl AP (by kernel_rfl:Af Tryz.prog 4 ir4 AGa = true)
theorem M_0:c_0.modes = [.bor]:=rfl
theorem Fl_0:c_0.flat = true:=rfl
attribute [go_sem] M_0 Fl_0
theorem Fs_0 {code:List UInt8} {y_:Bool} (h:Lx code = some y_):c_0.F [.sl 1 (List.map Co code)] = ⟨true,.bool y_,[.any]⟩:=by
 refine Ay rfl ?_
 dsimp only [Lx] at h
 obtain rfl:=AB h
 refine ⟨0,fun L hL => ?_⟩
 simp only [go_sem,ir4]
def ACS:List Nat:=[0,2]
def ACT:CI:=⟨1,2,.seq (.region false [ VO 1 2 (.mov (.c (.cv (.pointer none))))]) (.seq (.region false [ PM 3 0,PO 4 (.build [.sl 1 [],.int .i64 (0),.int .u64 (0)] [(0,1,(.s 0))]),PO 5 (.box (.s 0)),VS 1 2 0]) (.ret)),[.t 1]⟩
noncomputable def t_1:List (Nat × Ax):=[]
noncomputable def kA:Ax:=OE t_1 ACT [.bor]
theorem s_1:AU Tryz.prog 26 kA:=Bb _ AP (by kernel_rfl:Af Tryz.prog 26 ACT ACS = true)
theorem M_1:kA.modes = [.bor]:=rfl
theorem Fl_1:kA.flat = false:=rfl
attribute [go_sem] M_1 Fl_1
theorem vF {code:List UInt8} {y_:AQ} (h:Ey code = some y_):kA.F [.sl 1 (List.map Co code)] = ⟨true,.mem 3 [Ah y_] 0,[.any]⟩:=by
 refine FC ?_
 dsimp only [Ey] at h
 obtain rfl:=AB h
 refine ⟨0,fun L hL => ?_⟩
 simp only [go_sem,ACT]
def ABN:List Nat:=[0,2,3]
def nD:CI:=⟨1,3,.seq (.region false [ VO 1 2 (.mov (I6 0))]) (.seq (.region false [ VO 2 3 (.mov (I6 0))]) (.seq (.anyo 10 [ SO 0 4 (.mov (.v 0)),SO 1 5 (.nilck (.s 0)),SO 2 6 (.fldAddr 1 (.s 1)),SO 3 7 (.load false 1 (.s 2)),SO 4 8 (.mov (.v 0)),SO 5 9 (.nilck (.s 4)),SO 6 10 (.fldAddr 0 (.s 5)),SO 7 11 (.load false 1 (.s 6)),SO 8 12 (.len false (.s 7)),SO 9 13 (.bin false .lss (.s 3) (.s 8))] [] (.cond (.s 9) (.anyo 11 [ SO 0 14 (.mov (.v 0)),SO 1 15 (.nilck (.s 0)),SO 2 16 (.fldAddr 0 (.s 1)),SO 3 17 (.load false 1 (.s 2)),SO 4 18 (.mov (.v 0)),SO 5 19 (.nilck (.s 4)),
 SO 6 20 (.fldAddr 1 (.s 5)),SO 7 21 (.load false 1 (.s 6)),SO 8 22 (.ixAddr 1 (.s 3) (.s 7)),SO 9 23 (.load false 1 (.s 8)),SO 10 24 (.conv .i64 (.s 9)),VS 2 3 10] [] .skip) (.skip))) (.seq (.region false [ PM 25 0,PO 26 (.nilck (.s 0)),PO 27 (.fldAddr 1 (.s 0)),PO 28 (.load false 1 (.s 0)),PO 29 (.bin false .add (.s 0) (I6 1)),PO 30 (.nilck (.s 4)),PO 31 (.fldAddr 1 (.s 0)),⟨.no,0,none,.store 1 (.s 0) (.s 2)⟩]) (.seq (.region false [ PM 32 0,PM 33 0,PO 34 (.nilck (.s 0)),PO 35 (.fldAddr 2 (.s 0)),PO 36 (.load false 1 (.s 0)),PO 37 (.bin false .mul (.s 0) (.c (.int .u64
 (6364136223846793005)))),PM 38 2,PO 39 (.conv .u64 (.s 0)),PO 40 (.bin false .add (.s 2) (.s 0)),PO 41 (.bin false .add (.s 0) (.c (.int .u64 (1442695040888963407)))),PO 42 (.nilck (.s 9)),PO 43 (.fldAddr 2 (.s 0)),⟨.no,0,none,.store 1 (.s 0) (.s 2)⟩]) (.seq (.anyo 10 [ SO 0 44 (.mov (.v 0)),SO 1 45 (.nilck (.s 0)),SO 2 46 (.fldAddr 1 (.s 1)),SO 3 47 (.load false 1 (.s 2)),SO 4 48 (.mov (.v 0)),SO 5 49 (.nilck (.s 4)),SO 6 50 (.fldAddr 0 (.s 5)),SO 7 51 (.load false 1 (.s 6)),SO 8 52 (.len false (.s 7)),SO 9 53 (.bin false .leq (.s 3) (.s 8))] [] (.cond (.s 9) (.seq (.region
 false [ PM 54 2,VS 1 2 0]) (.ret)) (.skip))) (.seq (.region false [ PM 55 0,PO 56 (.nilck (.s 0)),PO 57 (.fldAddr 2 (.s 0)),PO 58 (.load false 1 (.s 0)),PO 59 (.bin false .shr (.s 0) (.c (.int .u64 (40)))),PO 60 (.bin false .and (.s 0) (.c (.int .u64 (255)))),PO 61 (.conv .i64 (.s 0)),VS 1 2 0]) (.ret))))))),[.t 1]⟩
noncomputable def t_2:List (Nat × Ax):=[]
noncomputable def c_2:Ax:=OE t_2 nD [.io]
theorem s_2:AU Tryz.prog 71 c_2:=Bb _ AP (by kernel_rfl:Af Tryz.prog 71 nD ABN = true)
theorem M_2:c_2.modes = [.io]:=rfl
theorem Fl_2:c_2.flat = false:=rfl
attribute [go_sem] M_2 Fl_2
theorem AIa {s_:AQ} {y_:Int × AQ} (h:EP s_ = some y_):c_2.F [.mem 3 [Ah s_] 0] = ⟨true,.int .i64 y_.1,[.mem 3 [Ah y_.2] 0]⟩:=by
 refine FC ?_
 dsimp only [EP] at h
 rcases AD h with ⟨z1,h⟩ | ⟨z1,h⟩
 ·try simp only [go_sem,n1,n2,n3,n4] at z1
  all_goals
  obtain ⟨z2,h⟩:=AF h
  have lz2:=Au z2
  have xz2:=AK Co s_.code_ lz2
  try simp only [go_sem] at lz2
  try simp only [go_sem] at xz2
  try simp only [go_sem,n1,n2,n3,n4,z1] at z2
  all_goals
  rcases AD h with ⟨z3,h⟩ | ⟨z3,h⟩
  ·try simp only [go_sem,n1,n2,n3,n4,z1,z2] at z3
   all_goals
   obtain rfl:=AB h
   refine ⟨0,fun L hL => ?_⟩
   simp only [go_sem,nD,z1,z2,lz2,xz2,z3]
  ·try simp only [go_sem,n1,n2,n3,n4,z1,z2] at z3
   all_goals
   obtain ⟨z4,h⟩:=AF h
   try simp only [go_sem,n1,n2,n3,n4,z1,z2,z3] at z4
   all_goals
   obtain rfl:=AB h
   refine ⟨0,fun L hL => ?_⟩
   simp only [go_sem,nD,z1,z2,lz2,xz2,z3,z4]
 ·try simp only [go_sem,n1,n2,n3,n4] at z1
  all_goals
  rcases AD h with ⟨z5,h⟩ | ⟨z5,h⟩
  ·try simp only [go_sem,n1,n2,n3,n4,z1] at z5
   all_goals
   obtain rfl:=AB h
   refine ⟨0,fun L hL => ?_⟩
   simp only [go_sem,nD,z1,z5]
  ·try simp only [go_sem,n1,n2,n3,n4,z1] at z5
   all_goals
   obtain ⟨z6,h⟩:=AF h
   try simp only [go_sem,n1,n2,n3,n4,z1,z5] at z6
   all_goals
   obtain rfl:=AB h
   refine ⟨0,fun L hL => ?_⟩
   simp only [go_sem,nD,z1,z5,z6]
def ACL:List Nat:=[0,1,4,5]
def tH:CI:=⟨2,4,.seq (.region false [ VO 2 4 (.mov (I6 0))]) (.seq (.test false [ PM 6 1,PO 7 (.bin false .leq (.s 0) (I6 1))] (.s 0) (.seq (.region false [ VO 2 4 (.mov (I6 0))]) (.ret)) (.skip)) (.seq (.region false [ PM 8 0,PO 9 (.call 71 [(.s 0)]),VS 3 5 0]) (.seq (.test false [ PM 10 1,PO 11 (.bin false .gtr (.s 0) (I6 200))] (.s 0) (.region false [ PM 12 3,PO 13 (.bin false .mul (.s 0) (I6 256)),PM 14 0,PO 15 (.call 71 [(.s 0)]),PO 16 (.bin false .add (.s 2) (.s 0)),VS 3 5 0]) (.skip)) (.seq (.region false [ PM 17 3,PM 18 1,PO 19 (.bin false .rem (.s 1) (.s 0)),VS 2 4
 0]) (.ret))))),[.t 2]⟩
noncomputable def t_3:List (Nat × Ax):=[(71,c_2)]
theorem wO:AR t_3 71 = some c_2:=rfl
noncomputable def LH:Ax:=OE t_3 tH [.io,.bor]
theorem au:AU Tryz.prog 31 LH:=Bb _ (AG s_2 AP) (by kernel_rfl:Af Tryz.prog 31 tH ACL = true)
theorem M_3:LH.modes = [.io,.bor]:=rfl
theorem Fl_3:LH.flat = false:=rfl
attribute [go_sem] M_3 Fl_3 wO
theorem Ed {s_:AQ} {n:Int} {y_:Int × AQ} (h:AI s_ n = some y_):LH.F [.mem 3 [Ah s_] 0,.int .i64 n] = ⟨true,.int .i64 y_.1,[.mem 3 [Ah y_.2] 0,.any]⟩:=by
 refine FC ?_
 dsimp only [AI] at h
 rcases AD h with ⟨z1,h⟩ | ⟨z1,h⟩
 ·try simp only [go_sem,n1,n2,n3,n4] at z1
  all_goals
  obtain rfl:=AB h
  refine ⟨0,fun L hL => ?_⟩
  simp only [go_sem,tH,z1]
 ·try simp only [go_sem,n1,n2,n3,n4] at z1
  all_goals
  obtain ⟨y_2,z2,h⟩:=AC h
  have fz2:=AIa z2
  try simp only [go_sem,z1] at fz2
  rcases AD h with ⟨z3,h⟩ | ⟨z3,h⟩
  ·try simp only [go_sem,n1,n2,n3,n4,z1] at z3
   all_goals
   obtain ⟨y_4,z4,h⟩:=AC h
   have fz4:=AIa z4
   try simp only [go_sem,z1,z3] at fz4
   obtain ⟨z5,h⟩:=AF h
   try simp only [go_sem,n1,n2,n3,n4,z1,z3] at z5
   all_goals
   obtain rfl:=AB h
   refine ⟨0,fun L hL => ?_⟩
   simp only [go_sem,tH,z1,fz2,z3,fz4,z5]
  ·try simp only [go_sem,n1,n2,n3,n4,z1] at z3
   all_goals
   obtain ⟨z6,h⟩:=AF h
   try simp only [go_sem,n1,n2,n3,n4,z1,z3] at z6
   all_goals
   obtain rfl:=AB h
   refine ⟨0,fun L hL => ?_⟩
   simp only [go_sem,tH,z1,fz2,z3,z6]
def ACO:List Nat:=[0,1,4]
def ACP:CI:=⟨2,3,.seq (.region false [ VO 2 4 (.mov (.c (.bool false)))]) (.seq (.region false [ PM 5 0,PM 6 1,PO 7 (.call 31 [(.s 1),(.s 0)]),PO 8 (.bin false .eql (.s 0) (I6 0)),VS 2 4 0]) (.ret)),[.t 2]⟩
noncomputable def t_4:List (Nat × Ax):=[(31,LH)]
theorem wN:AR t_4 31 = some LH:=rfl
noncomputable def PH:Ax:=OE t_4 ACP [.io,.bor]
theorem kV:AU Tryz.prog 29 PH:=Bb _ (AG au AP) (by kernel_rfl:Af Tryz.prog 29 ACP ACO = true)
theorem M_4:PH.modes = [.io,.bor]:=rfl
theorem Fl_4:PH.flat = false:=rfl
attribute [go_sem] M_4 Fl_4 wN
theorem Jy {s_:AQ} {n:Int} {y_:Bool × AQ} (h:Ag s_ n = some y_):PH.F [.mem 3 [Ah s_] 0,.int .i64 n] = ⟨true,.bool y_.1,[.mem 3 [Ah y_.2] 0,.any]⟩:=by
 refine FC ?_
 dsimp only [Ag] at h
 obtain ⟨y_1,z1,h⟩:=AC h
 have fz1:=Ed z1
 try simp only [go_sem] at fz1
 obtain rfl:=AB h
 refine ⟨0,fun L hL => ?_⟩
 simp only [go_sem,ACP,fz1]
def xv:List Nat:=[0,1,4]
def td:CI:=⟨2,3,.seq (.region false [ VO 2 4 (.mov (.c (.str [])))]) (.seq (.region false [ PM 5 1,PM 6 0,PM 7 1,PO 8 (.len false (.s 0)),PO 9 (.call 31 [(.s 2),(.s 0)]),PO 10 (.ixAddr 1 (.s 4) (.s 0)),PO 11 (.load false 1 (.s 0)),VS 2 4 0]) (.ret)),[.t 2]⟩
noncomputable def t_5:List (Nat × Ax):=[(31,LH)]
theorem wM:AR t_5 31 = some LH:=rfl
noncomputable def jz:Ax:=OE t_5 td [.io,.bor]
theorem s_5:AU Tryz.prog 105 jz:=Bb _ (AG au AP) (by kernel_rfl:Af Tryz.prog 105 td xv = true)
theorem M_5:jz.modes = [.io,.bor]:=rfl
theorem Fl_5:jz.flat = false:=rfl
attribute [go_sem] M_5 Fl_5 wM
theorem Yw {s_:AQ} {list:List (List UInt8)} {y_:(List UInt8) × AQ} (h:BO s_ list = some y_):jz.F [.mem 3 [Ah s_] 0,.sl 1 (List.map AV.str list)] = ⟨true,.str y_.1,[.mem 3 [Ah y_.2] 0,.any]⟩:=by
 refine FC ?_
 dsimp only [BO] at h
 obtain ⟨y_1,z1,h⟩:=AC h
 have fz1:=Ed z1
 try simp only [go_sem] at fz1
 obtain ⟨z2,h⟩:=AF h
 have lz2:=Au z2
 have xz2:=AK AV.str list lz2
 try simp only [go_sem] at lz2
 try simp only [go_sem] at xz2
 try simp only [go_sem,n1,n2,n3,n4] at z2
 all_goals
 obtain rfl:=AB h
 refine ⟨0,fun L hL => ?_⟩
 simp only [go_sem,td,fz1,z2,lz2,xz2]
def xN:List Nat:=[0,2,3]
def jX:CI:=⟨1,3,.seq (.region false [ VO 1 2 (.alloc (.agg [.int .i64 (0),.str [],.str [],.int .i64 (0),.bool false]))]) (.seq (.region false [ PM 4 0,PO 5 (.call 31 [(.s 0),(I6 30)]),PO 6 (.bin false .mul (I6 1000) (.s 0)),PO 7 (.build [.int .i64 (0),.str [],.str [],.int .i64 (0),.bool false] [(0,1,(.s 0))]),VO 2 3 (.alloc (.agg [.int .i64 (0),.str [],.str [],.int .i64 (0),.bool false])),⟨.no,0,none,.store 5 (.v 2) (.s 0)⟩]) (.seq (.test false [ PM 8 0,PO 9 (.call 29 [(.s 0),(I6 2)])] (.s 0) (.anyo 6 [ SO 0 10 (.fldAddr 0 (.v 2)),SO 1 11 (.load false 1 (.s
 0)),SO 2 12 (.mov (.v 0)),SO 3 13 (.call 31 [(.s 2),(I6 3000)]),SO 4 14 (.bin false .add (.s 1) (.s 3)),SO 5 15 (.fldAddr 0 (.v 2)),⟨.no,0,none,.store 1 (.s 5) (.s 4)⟩] [[2,0,1,3,4,5,6],[2,0,3,1,4,5,6],[2,3,0,1,4,5,6]] .skip) (.skip)) (.seq (.region false [ PM 16 0,PO 17 (.mkSl 1 (.str []) 3 [(0,(.c (.str [109,105,114,97]))),(1,(.c (.str [114,114,45,108,121,114]))),(2,(.c (.str [115,115,45,99,121,103])))]),PO 18 (.call 105 [(.s 1),(.s 0)]),PO 19 (.fldAddr 1 (.v 2)),⟨.no,0,none,.store 1 (.s 0) (.s 1)⟩]) (.seq (.region false [ PM 20 0,PO 21
 (.mkSl 1 (.str []) 3 [(0,(.c (.str [97,98]))),(1,(.c (.str [99,100]))),(2,(.c (.str [101])))]),PO 22 (.call 105 [(.s 1),(.s 0)]),PO 23 (.fldAddr 2 (.v 2)),⟨.no,0,none,.store 1 (.s 0) (.s 1)⟩]) (.seq (.region false [ PM 24 0,PO 25 (.call 31 [(.s 0),(I6 60)]),PO 26 (.bin false .mul (I6 50) (.s 0)),PO 27 (.bin false .add (I6 8000) (.s 0)),PO 28 (.fldAddr 3 (.v 2)),⟨.no,0,none,.store 1 (.s 0) (.s 1)⟩]) (.seq (.region false [ PM 29 0,PO 30 (.call 29 [(.s 0),(I6 5)]),PO 31 (.fldAddr 4 (.v 2)),⟨.no,0,none,.store 1 (.s 0) (.s 1)⟩]) (.seq (.region false [ PO 32 (.load true
 5 (.v 2)),⟨.no,0,none,.store 5 (.v 1) (.s 0)⟩]) (.ret)))))))),[.cell true 5 1]⟩
noncomputable def t_6:List (Nat × Ax):=[(31,LH),(29,PH),(105,jz)]
theorem wK:AR t_6 31 = some LH:=rfl
theorem wL:AR t_6 29 = some PH:=rfl
theorem rN:AR t_6 105 = some jz:=rfl
noncomputable def zM:Ax:=OE t_6 jX [.io]
theorem s_6:AU Tryz.prog 139 zM:=Bb _ (AG au (AG kV (AG s_5 AP))) (by kernel_rfl:Af Tryz.prog 139 jX xN = true)
theorem M_6:zM.modes = [.io]:=rfl
theorem Fl_6:zM.flat = false:=rfl
attribute [go_sem] M_6 Fl_6 wK wL rN
theorem AIC {s_:AQ} {y_:AA × AQ} (h:ID s_ = some y_):zM.F [.mem 3 [Ah s_] 0] = ⟨true,AE y_.1,[.mem 3 [Ah y_.2] 0]⟩:=by
 refine FC ?_
 dsimp only [ID] at h
 obtain ⟨y_1,z1,h⟩:=AC h
 have fz1:=Ed z1
 try simp only [go_sem] at fz1
 obtain ⟨y_2,z2,h⟩:=AC h
 have fz2:=Jy z2
 try simp only [go_sem] at fz2
 rcases AD h with ⟨z3,h⟩ | ⟨z3,h⟩
 ·try simp only [go_sem,n1,n2,n3,n4] at z3
  all_goals
  obtain ⟨y_4,z4,h⟩:=AC h
  have fz4:=Ed z4
  try simp only [go_sem,z3] at fz4
  obtain ⟨y_5,z5,h⟩:=AC h
  have fz5:=Yw z5
  try simp only [go_sem,z3] at fz5
  obtain ⟨y_6,z6,h⟩:=AC h
  have fz6:=Yw z6
  try simp only [go_sem,z3] at fz6
  obtain ⟨y_7,z7,h⟩:=AC h
  have fz7:=Ed z7
  try simp only [go_sem,z3] at fz7
  obtain ⟨y_8,z8,h⟩:=AC h
  have fz8:=Jy z8
  try simp only [go_sem,z3] at fz8
  obtain rfl:=AB h
  refine ⟨0,fun L hL => ?_⟩
  simp only [go_sem,jX,fz1,fz2,z3,fz4,fz5,fz6,fz7,fz8]
 ·try simp only [go_sem,n1,n2,n3,n4] at z3
  all_goals
  obtain ⟨y_9,z9,h⟩:=AC h
  have fz9:=Yw z9
  try simp only [go_sem,z3] at fz9
  obtain ⟨y_10,z10,h⟩:=AC h
  have fz10:=Yw z10
  try simp only [go_sem,z3] at fz10
  obtain ⟨y_11,z11,h⟩:=AC h
  have fz11:=Ed z11
  try simp only [go_sem,z3] at fz11
  obtain ⟨y_12,z12,h⟩:=AC h
  have fz12:=Jy z12
  try simp only [go_sem,z3] at fz12
  obtain rfl:=AB h
  refine ⟨0,fun L hL => ?_⟩
  simp only [go_sem,jX,fz1,fz2,z3,fz9,fz10,fz11,fz12]
def AAr:List Nat:=[0,1,4]
def wX:CI:=⟨2,3,.seq (.region false [ VO 2 4 (.mov (.c (.bool false)))]) (.seq (.anyo 9 [ SO 0 5 (.mov (.v 0)),SO 1 6 (.nilck (.s 0)),SO 2 7 (.fldAddr 0 (.s 1)),SO 3 8 (.load false 1 (.s 2)),SO 4 9 (.mov (.v 1)),SO 5 10 (.nilck (.s 4)),SO 6 11 (.fldAddr 0 (.s 5)),SO 7 12 (.load false 1 (.s 6)),SO 8 13 (.bin false .neq (.s 3) (.s 7))] [] (.cond (.s 8) (.seq (.anyo 9 [ SO 0 14 (.mov (.v 0)),SO 1 15 (.nilck (.s 0)),SO 2 16 (.fldAddr 0 (.s 1)),SO 3 17 (.load false 1 (.s 2)),SO 4 18 (.mov (.v 1)),SO 5 19 (.nilck (.s 4)),SO 6 20 (.fldAddr 0 (.s 5)),SO 7 21 (.load false 1 (.s
 6)),SO 8 22 (.bin false .lss (.s 3) (.s 7)),VS 2 4 8] [] .skip) (.ret)) (.skip))) (.seq (.anyo 9 [ SO 0 23 (.mov (.v 0)),SO 1 24 (.nilck (.s 0)),SO 2 25 (.fldAddr 1 (.s 1)),SO 3 26 (.load false 1 (.s 2)),SO 4 27 (.mov (.v 1)),SO 5 28 (.nilck (.s 4)),SO 6 29 (.fldAddr 1 (.s 5)),SO 7 30 (.load false 1 (.s 6)),SO 8 31 (.bin false .neq (.s 3) (.s 7))] [] (.cond (.s 8) (.seq (.anyo 9 [ SO 0 32 (.mov (.v 0)),SO 1 33 (.nilck (.s 0)),SO 2 34 (.fldAddr 1 (.s 1)),SO 3 35 (.load false 1 (.s 2)),SO 4 36 (.mov (.v 1)),SO 5 37 (.nilck (.s 4)),SO 6 38 (.fldAddr 1 (.s 5)),SO 7 39 (.load false
 1 (.s 6)),SO 8 40 (.bin false .lss (.s 3) (.s 7)),VS 2 4 8] [] .skip) (.ret)) (.skip))) (.seq (.anyo 9 [ SO 0 41 (.mov (.v 0)),SO 1 42 (.nilck (.s 0)),SO 2 43 (.fldAddr 2 (.s 1)),SO 3 44 (.load false 1 (.s 2)),SO 4 45 (.mov (.v 1)),SO 5 46 (.nilck (.s 4)),SO 6 47 (.fldAddr 2 (.s 5)),SO 7 48 (.load false 1 (.s 6)),SO 8 49 (.bin false .lss (.s 3) (.s 7)),VS 2 4 8] [] .skip) (.ret)))),[.t 2]⟩
noncomputable def t_7:List (Nat × Ax):=[]
noncomputable def vM:Ax:=Di t_7 wX [.bor,.bor]
theorem s_7:AU Tryz.prog 86 vM:=AM _ rfl AP (by kernel_rfl:Af Tryz.prog 86 wX AAr = true)
theorem M_7:vM.modes = [.bor,.bor]:=rfl
theorem Fl_7:vM.flat = true:=rfl
attribute [go_sem] M_7 Fl_7
theorem yX {a:AA} {b:AA} {y_:Bool} (h:CP a b = some y_):vM.F [.ptr 5 [AE a] 0 0,.ptr 5 [AE b] 0 0] = ⟨true,.bool y_,[.any,.any]⟩:=by
 refine Ay rfl ?_
 dsimp only [CP] at h
 rcases AD h with ⟨z1,h⟩ | ⟨z1,h⟩
 ·try simp only [go_sem,n1,n2,n3,n4] at z1
  all_goals
  obtain rfl:=AB h
  refine ⟨0,fun L hL => ?_⟩
  simp only [go_sem,wX,z1]
 ·try simp only [go_sem,n1,n2,n3,n4] at z1
  all_goals
  rcases AD h with ⟨z2,h⟩ | ⟨z2,h⟩
  all_goals
  try simp only [go_sem,n1,n2,n3,n4,z1] at z2
  all_goals
  obtain rfl:=AB h
  refine ⟨0,fun L hL => ?_⟩
  simp only [go_sem,wX,z1,z2]
def bp:IR:=.seq (.test false [ PM 6 3,PM 7 0,PO 8 (.len false (.s 0)),PO 9 (.bin false .lss (.s 2) (.s 0))] (.s 0) (.skip) (.exit 0)) (.seq (.block 1 (.test false [ PM 12 0,PM 13 3,PO 14 (.ixAddr 5 (.s 1) (.s 0)),PM 15 1,PO 16 (.call 86 [(.s 1),(.s 0)]),PO 17 (.un .not (.s 0)),PO 18 (.mov (.s 0)),⟨.push,19,(some ((.s 0),true)),.mov (.v 1)⟩,⟨.push,20,(some ((.s 1),true)),.mov (.v 0)⟩,⟨.push,21,(some ((.s 2),true)),.mov (.v 3)⟩,⟨.push,22,(some ((.s 3),true)),.ixAddr 5 (.s 1) (.s 0)⟩,⟨.push,23,(some ((.s 4),true)),.call 86 [(.s 3),(.s 0)]⟩,⟨.push,24,
 (some ((.s 5),true)),.un .not (.s 0)⟩,PO 25 (.pick (.s 6) (.s 0) (.c (.bool false)))] (.s 0) (.seq (.region false [ PM 26 3,VS 2 4 0]) (.ret)) (.skip))) (.region false [ PM 10 3,PO 11 (.bin false .add (.s 0) (I6 1)),VS 3 5 0]))
def Ub:List Bool:=[true,true,false,true]
def Ua:List Bool:=[false,false,false,false]
def UZ:List Bool:=[false,false,true,false]
def ABR:List Nat:=[0,1,4,5]
def we:CI:=⟨2,4,.seq (.region false [ VO 2 4 (.mov (I6 0))]) (.seq (.seq (.region false [ VO 3 5 (.mov (I6 0))]) (.block 0 (.loop Ub Ua UZ bp))) (.seq (.region false [ VO 2 4 (.mov (.c (.int .i64 (-1))))]) (.ret))),[.t 2]⟩
noncomputable def t_8:List (Nat × Ax):=[(86,vM)]
theorem wJ:AR t_8 86 = some vM:=rfl
noncomputable def zL:Ax:=Di t_8 we [.bor,.bor]
theorem s_8:AU Tryz.prog 67 zL:=AM _ rfl (AG s_7 AP) (by kernel_rfl:Af Tryz.prog 67 we ABR = true)
theorem M_8:zL.modes = [.bor,.bor]:=rfl
theorem Fl_8:zL.flat = true:=rfl
attribute [go_sem] M_8 Fl_8 wJ
def dC (list:List AA) (e_:AA):Int → St
 | i => ⟨[.sl 5 (List.map AE list),.ptr 5 [AE e_] 0 0,.any,.int .i64 i],[],[],true⟩
def cz (list:List AA) (e_:AA):(Unit ⊕ Int) → EB
 | .inl y => (.exit 0,⟨[.any,.any,.any,.any],[],[],true⟩)
 | .inr y => (.ret,⟨[.any,.any,.int .i64 y,.any],[],[],true⟩)
attribute [local go_sem] we dC cz bp Ub Ua UZ in
theorem OT {list:List AA} {e_:AA} {sgm_:Int} {rho_:Unit ⊕ Int} (h:AL (En list e_) sgm_ = some rho_):∃ L0,∀ L,L0 ≤ L → Bk (Az (AR t_8) L bp) Ub Ua UZ L (dC list e_ sgm_) = cz list e_ rho_:=by
 refine As (E:=dC list e_) (R:=cz list e_) (fun y => by first | (intro c; cases c) | (rcases y with y | y <;> (intro c; cases c)) | (rcases y with y | y | y <;> (intro c; cases c))) ?_ h
 clear h
 intro i o_ h
 dsimp only [En] at h
 rcases AD h with ⟨z1,h⟩ | ⟨z1,h⟩
 ·try simp only [go_sem,n1,n2,n3,n4] at z1
  all_goals
  obtain ⟨z2,h⟩:=AF h
  have lz2:=Au z2
  have xz2:=AK AE list lz2
  try simp only [go_sem] at lz2
  try simp only [go_sem] at xz2
  try simp only [go_sem,n1,n2,n3,n4,z1] at z2
  all_goals
  obtain ⟨y_3,z3,h⟩:=AC h
  have fz3:=yX z3
  try simp only [go_sem,z1,z2] at fz3
  obtain ⟨z4,h⟩:=AF h
  rcases Ab z4 with ⟨gz4,z4⟩ | gz4
  ·try simp only [go_sem,n1,n2,n3,n4,z1,z2] at gz4
   all_goals
   obtain ⟨y_4,hz4⟩:=Option.isSome_iff_exists.1 z4
   have fz4:=yX hz4
   try simp only [go_sem,n1,n2,n3,n4,z1,z2,gz4] at hz4
   all_goals
   try simp only [go_sem,z1,z2,gz4] at fz4
   rcases AD h with ⟨z5,h⟩ | ⟨z5,h⟩
   all_goals
   try simp only [go_sem,n1,n2,n3,n4,z1,z2,gz4,hz4] at z5
   all_goals
   obtain rfl:=AB h
   refine ⟨0,fun L hL => ?_⟩
   simp only [go_sem,z1,z2,lz2,xz2,fz3,gz4,hz4,fz4,z5]
  ·have gz4n:=DT gz4
   try simp only [go_sem,n1,n2,n3,n4,z1,z2] at gz4n
   all_goals
   rcases AD h with ⟨z5,h⟩ | ⟨z5,h⟩
   ·try simp only [go_sem,n1,n2,n3,n4,z1,z2,gz4n] at z5
    all_goals
    (simp_all)
   ·try simp only [go_sem,n1,n2,n3,n4,z1,z2,gz4n] at z5
    all_goals
    obtain rfl:=AB h
    refine ⟨0,fun L hL => ?_⟩
    simp only [go_sem,z1,z2,lz2,xz2,fz3,gz4n,z5]
 ·try simp only [go_sem,n1,n2,n3,n4] at z1
  all_goals
  obtain rfl:=AB h
  refine ⟨0,fun L hL => ?_⟩
  simp only [go_sem,z1]
attribute [local go_sem] dC cz Ub Ua UZ we in
theorem AHl {list:List AA} {e_:AA} {y_:Int} (h:EC list e_ = some y_):zL.F [.sl 5 (List.map AE list),.ptr 5 [AE e_] 0 0] = ⟨true,.int .i64 y_,[.any,.any]⟩:=by
 refine Ay rfl ?_
 dsimp only [EC] at h
 obtain ⟨y_6,z6,h⟩:=AC h
 obtain ⟨Lz6,ez6⟩:=OT z6
 rcases y_6 with y_6a | y_6b
 all_goals
 dsimp only at h
 obtain rfl:=AB h
 refine ⟨Lz6,fun L hL => ?_⟩
 have ez6:=ez6 L (by omega)
 try simp only [go_sem] at ez6
 simp only [go_sem,ez6]
def bn:IR:=.seq (.test false [ PM 9 4,PO 10 (.bin false .gtr (.s 0) (I6 0)),PO 11 (.mov (.s 0)),⟨.push,12,(some ((.s 0),true)),.mov (.v 0)⟩,⟨.push,13,(some ((.s 1),true)),.mov (.v 4)⟩,⟨.push,14,(some ((.s 2),true)),.bin false .sub (.s 0) (I6 1)⟩,⟨.push,15,(some ((.s 3),true)),.ixAddr 5 (.s 2) (.s 0)⟩,⟨.push,16,(some ((.s 4),true)),.call 86 [(.v 2),(.s 0)]⟩,PO 17 (.pick (.s 5) (.s 0) (.c (.bool false)))] (.s 0) (.skip) (.exit 0)) (.block 1 (.region false [ PM 18 4,PO 19 (.bin false .sub (.s 0) (I6 1)),VS 4 5 0]))
def UY:List Bool:=[true,false,true,false,true,false]
def UX:List Bool:=[true,false,true,false,true,false]
def UW:List Bool:=[false,false,false,true,false,false]
def ABQ:List Nat:=[0,1,3,4,5,6]
def wd:CI:=⟨2,6,.seq (.region false [ VO 2 3 (.box (.v 1)),VO 3 4 (.newnil 5)]) (.seq (.region false [ PM 7 0,PO 8 (.len false (.s 0)),VS 4 5 0]) (.seq (.block 0 (.loop UY UX UW bn)) (.seq (.region false [ PO 20 (.mkSl 5 (.agg [.int .i64 (0),.str [],.str [],.int .i64 (0),.bool false]) 0 []),PM 21 0,PM 22 4,PO 23 (.slice 5 (.s 1) none (some (.s 0))),PO 24 (.app 5 56 (.agg [.int .i64 (0),.str [],.str [],.int .i64 (0),.bool false]) (.s 3) (.s 0)),VS 5 6 0]) (.seq (.region false [ PM 25 5,PO 26 (.load true 5 (.v 2)),PO 27 (.mkSl 5 (.agg [.int .i64 (0),
 .str [],.str [],.int .i64 (0),.bool false]) 1 [(0,(.s 0))]),PO 28 (.app 5 56 (.agg [.int .i64 (0),.str [],.str [],.int .i64 (0),.bool false]) (.s 2) (.s 0)),VS 5 6 0]) (.seq (.region false [ PM 29 5,PM 30 0,PM 31 4,PO 32 (.slice 5 (.s 1) (some (.s 0)) none),PO 33 (.app 5 56 (.agg [.int .i64 (0),.str [],.str [],.int .i64 (0),.bool false]) (.s 3) (.s 0)),VS 3 4 0]) (.ret)))))),[.t 3]⟩
noncomputable def t_9:List (Nat × Ax):=[(86,vM)]
theorem wI:AR t_9 86 = some vM:=rfl
noncomputable def zK:Ax:=Di t_9 wd [.bor,.bor]
theorem s_9:AU Tryz.prog 68 zK:=AM _ rfl (AG s_7 AP) (by kernel_rfl:Af Tryz.prog 68 wd ABQ = true)
theorem M_9:zK.modes = [.bor,.bor]:=rfl
theorem Fl_9:zK.flat = true:=rfl
attribute [go_sem] M_9 Fl_9 wI
def dB (list:List AA) (e_:AA):Int → St
 | k => ⟨[.sl 5 (List.map AE list),.any,.ref 3200000 0 0,.any,.int .i64 k,.any],[],[(3200000,⟨5,[AE e_]⟩)],true⟩
def cy (list:List AA) (e_:AA) (y:Int):EB:=(.exit 0,⟨[.sl 5 (List.map AE list),.any,.ref 3200000 0 0,.any,.int .i64 y,.any],[],[(3200000,⟨5,[AE e_]⟩)],true⟩)
attribute [local go_sem] wd dB cy bn UY UX UW in
theorem PX {list:List AA} {e_:AA} {sgm_:Int} {rho_:Int} (h:AL (ET list e_) sgm_ = some rho_):∃ L0,∀ L,L0 ≤ L → Bk (Az (AR t_9) L bn) UY UX UW L (dB list e_ sgm_) = cy list e_ rho_:=by
 refine As (E:=dB list e_) (R:=cy list e_) (fun y => by first | (intro c; cases c) | (rcases y with y | y <;> (intro c; cases c)) | (rcases y with y | y | y <;> (intro c; cases c))) ?_ h
 clear h
 intro k o_ h
 dsimp only [ET] at h
 obtain ⟨z1,h⟩:=AF h
 rcases Ab z1 with ⟨gz1,z1⟩ | gz1
 ·try simp only [go_sem,n1,n2,n3,n4] at gz1
  all_goals
  have lz1:=Au z1
  have xz1:=AK AE list lz1
  try simp only [go_sem] at lz1
  try simp only [go_sem] at xz1
  try simp only [go_sem,n1,n2,n3,n4,gz1] at z1
  all_goals
  obtain ⟨z2,h⟩:=AF h
  rcases Ab z2 with ⟨gz2,z2⟩ | gz2
  ·try simp only [go_sem,n1,n2,n3,n4,gz1,z1] at gz2
   all_goals
   obtain ⟨y_2,hz2⟩:=Option.isSome_iff_exists.1 z2
   have fz2:=yX hz2
   try simp only [go_sem,n1,n2,n3,n4,gz1,z1,gz2] at hz2
   all_goals
   try simp only [go_sem,gz1,z1,gz2] at fz2
   rcases AD h with ⟨z3,h⟩ | ⟨z3,h⟩
   all_goals
   try simp only [go_sem,n1,n2,n3,n4,gz1,z1,gz2,hz2] at z3
   all_goals
   obtain rfl:=AB h
   refine ⟨0,fun L hL => ?_⟩
   simp only [go_sem,gz1,z1,lz1,xz1,gz2,hz2,fz2,z3]
  ·try simp only [go_sem,n1,n2,n3,n4,gz1,z1] at gz2
   all_goals
   rcases AD h with ⟨z3,h⟩ | ⟨z3,h⟩
   ·try simp only [go_sem,n1,n2,n3,n4,gz1,z1,gz2] at z3
    all_goals
    (simp_all)
   ·try simp only [go_sem,n1,n2,n3,n4,gz1,z1,gz2] at z3
    all_goals
    obtain rfl:=AB h
    refine ⟨0,fun L hL => ?_⟩
    simp only [go_sem,gz1,z1,lz1,xz1,gz2,z3]
 ·try simp only [go_sem,n1,n2,n3,n4] at gz1
  all_goals
  obtain ⟨z2,h⟩:=AF h
  rcases AD h with ⟨z3,h⟩ | ⟨z3,h⟩
  ·try simp only [go_sem,n1,n2,n3,n4,gz1] at z3
   all_goals
   (simp_all)
  ·try simp only [go_sem,n1,n2,n3,n4,gz1] at z3
   all_goals
   obtain rfl:=AB h
   refine ⟨0,fun L hL => ?_⟩
   simp only [go_sem,gz1,z3]
attribute [local go_sem] dB cy UY UX UW wd in
theorem AHd {list:List AA} {e_:AA} {y_:(List AA)} (h:IB list e_ = some y_):zK.F [.sl 5 (List.map AE list),AE e_] = ⟨true,.fresh 5 (List.map AE y_),[.any,.any]⟩:=by
 refine Ay (by simp only [Fo,Fu,GQ,List.all_cons,List.all_nil,Bool.and_self,Bx (f:=AE) (fun _ => rfl)]) ?_
 dsimp only [IB] at h
 obtain ⟨y_4,z4,h⟩:=AC h
 obtain ⟨Lz4,ez4⟩:=PX z4
 obtain ⟨z5,h⟩:=AF h
 try simp only [go_sem,n1,n2,n3,n4] at z5
 all_goals
 obtain ⟨z6,h⟩:=AF h
 try simp only [go_sem,n1,n2,n3,n4,z5] at z6
 all_goals
 obtain ⟨z7,h⟩:=AF h
 try simp only [go_sem,n1,n2,n3,n4,z5,z6] at z7
 all_goals
 obtain ⟨z8,h⟩:=AF h
 try simp only [go_sem,n1,n2,n3,n4,z5,z6,z7] at z8
 all_goals
 obtain ⟨z9,h⟩:=AF h
 try simp only [go_sem,n1,n2,n3,n4,z5,z6,z7,z8] at z9
 all_goals
 obtain rfl:=AB h
 refine ⟨Lz4,fun L hL => ?_⟩
 have ez4:=ez4 L (by omega)
 try simp only [go_sem,z5,z6,z7,z8,z9] at ez4
 simp only [go_sem,z5,z6,z7,z8,z9,ez4]
def Xo:IR:=.seq (.test false [ PM 13 4,PO 14 (.bin false .gtr (.s 0) (I6 0))] (.s 0) (.skip) (.exit 0)) (.seq (.block 1 (.seq (.region false [ PM 17 0,PO 18 (.call 139 [(.s 0)]),VO 5 7 (.alloc (.agg [.int .i64 (0),.str [],.str [],.int .i64 (0),.bool false])),⟨.no,0,none,.store 5 (.v 5) (.s 0)⟩]) (.test false [ PM 19 3,PO 20 (.call 67 [(.s 0),(.v 5)]),PO 21 (.bin false .lss (.s 0) (I6 0))] (.s 0) (.region false [ PM 22 3,PO 23 (.load true 5 (.v 5)),PO 24 (.call 68 [(.s 1),(.s 0)]),VS 3 5 0]) (.skip)))) (.region false [ PM 15 4,PO 16 (.bin false .sub (.s 0) (I6 1)),
 VS 4 6 0]))
def Qi:List Bool:=[true,false,false,true,true,false]
def Qh:List Bool:=[true,false,false,true,false,false]
def Qg:List Bool:=[true,false,true,false,false,false]
def xr:List Nat:=[0,1,4,5,6,7]
def ji:CI:=⟨2,6,.seq (.region false [ VO 2 4 (.newnil 5)]) (.seq (.region false [ PO 8 (.mkSl 5 (.agg [.int .i64 (0),.str [],.str [],.int .i64 (0),.bool false]) 0 []),VS 3 5 0]) (.seq (.seq (.region false [ PM 9 0,PM 10 1,PO 11 (.bin false .add (.s 0) (I6 1)),PO 12 (.call 31 [(.s 2),(.s 0)]),VS 4 6 0]) (.block 0 (.loop Qi Qh Qg Xo))) (.seq (.region false [ PM 25 3,VS 2 4 0]) (.ret)))),[.t 2]⟩
noncomputable def kN:List (Nat × Ax):=[(31,LH),(139,zM),(67,zL),(68,zK)]
theorem sn:AR kN 31 = some LH:=rfl
theorem mj:AR kN 139 = some zM:=rfl
theorem sm:AR kN 67 = some zL:=rfl
theorem sk:AR kN 68 = some zK:=rfl
noncomputable def pE:Ax:=OE kN ji [.io,.bor]
theorem s_10:AU Tryz.prog 108 pE:=Bb _ (AG au (AG s_6 (AG s_8 (AG s_9 AP)))) (by kernel_rfl:Af Tryz.prog 108 ji xr = true)
theorem M_10:pE.modes = [.io,.bor]:=rfl
theorem AKL:pE.flat = false:=rfl
attribute [go_sem] M_10 AKL sn mj sm sk
def Wv :(AQ × (List AA) × Int) → St
 | (s_,out,k) => ⟨[.ref 31 0 0,.any,.any,.own 3200032,.int .i64 k,.any],[],[(31,⟨3,[Ah s_]⟩),(3200032,⟨5,List.map AE out⟩)],true⟩
def WR  (y:AQ × (List AA)):EB:=(.exit 0,⟨[.ref 31 0 0,.any,.any,.own 3200032,.any,.any],[],[(31,⟨3,[Ah y.1]⟩),(3200032,⟨5,List.map AE y.2⟩)],true⟩)
attribute [local go_sem] ji Wv WR Xo Qi Qh Qg in
theorem OU  {sgm_:AQ × (List AA) × Int} {rho_:AQ × (List AA)} (h:AL (Eo) sgm_ = some rho_):∃ L0,∀ L,L0 ≤ L → Bk (Az (AR kN) L Xo) Qi Qh Qg L (Wv sgm_) = WR rho_:=by
 refine As (E:=Wv) (R:=WR) (fun y => by first | (intro c; cases c) | (rcases y with y | y <;> (intro c; cases c)) | (rcases y with y | y | y <;> (intro c; cases c))) ?_ h
 clear h
 rintro ⟨s_,out,k⟩ o_ h
 dsimp only [Eo] at h
 rcases AD h with ⟨z2,h⟩ | ⟨z2,h⟩
 ·try simp only [go_sem,n1,n2,n3,n4] at z2
  all_goals
  obtain ⟨y_3,z3,h⟩:=AC h
  have fz3:=AIC z3
  try simp only [go_sem,z2] at fz3
  obtain ⟨y_4,z4,h⟩:=AC h
  have fz4:=AHl z4
  try simp only [go_sem,z2] at fz4
  rcases AD h with ⟨z5,h⟩ | ⟨z5,h⟩
  ·try simp only [go_sem,n1,n2,n3,n4,z2] at z5
   all_goals
   obtain ⟨y_6,z6,h⟩:=AC h
   have fz6:=AHd z6
   try simp only [go_sem,z2,z5] at fz6
   obtain rfl:=AB h
   refine ⟨0,fun L hL => ?_⟩
   simp only [go_sem,z2,fz3,fz4,z5,fz6]
  ·try simp only [go_sem,n1,n2,n3,n4,z2] at z5
   all_goals
   obtain rfl:=AB h
   refine ⟨0,fun L hL => ?_⟩
   simp only [go_sem,z2,fz3,fz4,z5]
 ·try simp only [go_sem,n1,n2,n3,n4] at z2
  all_goals
  obtain rfl:=AB h
  refine ⟨0,fun L hL => ?_⟩
  simp only [go_sem,z2]
attribute [local go_sem] Wv WR Qi Qh Qg ji in
theorem AId {s_:AQ} {most:Int} {y_:(List AA) × AQ} (h:Gz s_ most = some y_):pE.F [.mem 3 [Ah s_] 0,.int .i64 most] = ⟨true,.fresh 5 (List.map AE y_.1),[.mem 3 [Ah y_.2] 0,.any]⟩:=by
 refine FC ?_
 dsimp only [Gz] at h
 obtain ⟨y_1,z1,h⟩:=AC h
 have fz1:=Ed z1
 try simp only [go_sem] at fz1
 obtain ⟨y_7,z7,h⟩:=AC h
 obtain ⟨Lz7,ez7⟩:=OU z7
 obtain rfl:=AB h
 refine ⟨Lz7,fun L hL => ?_⟩
 have ez7:=ez7 L (by omega)
 try simp only [go_sem] at ez7
 simp only [go_sem,fz1,ez7]
def ACM:List Nat:=[0,1,4]
def ACN:CI:=⟨2,3,.seq (.region false [ VO 2 4 (.mov (I6 0))]) (.seq (.region false [ PM 5 1,PM 6 0,PM 7 1,PO 8 (.len false (.s 0)),PO 9 (.call 31 [(.s 2),(.s 0)]),PO 10 (.ixAddr 1 (.s 4) (.s 0)),PO 11 (.load false 1 (.s 0)),VS 2 4 0]) (.ret)),[.t 2]⟩
noncomputable def AFG:List (Nat × Ax):=[(31,LH)]
theorem sj:AR AFG 31 = some LH:=rfl
noncomputable def Ld:Ax:=OE AFG ACN [.io,.bor]
theorem da:AU Tryz.prog 30 Ld:=Bb _ (AG au AP) (by kernel_rfl:Af Tryz.prog 30 ACN ACM = true)
theorem M_11:Ld.modes = [.io,.bor]:=rfl
theorem AKK:Ld.flat = false:=rfl
attribute [go_sem] M_11 AKK sj
theorem MX {s_:AQ} {list:List Int} {y_:Int × AQ} (h:BH s_ list = some y_):Ld.F [.mem 3 [Ah s_] 0,.sl 1 (List.map (AV.int .i64) list)] = ⟨true,.int .i64 y_.1,[.mem 3 [Ah y_.2] 0,.any]⟩:=by
 refine FC ?_
 dsimp only [BH] at h
 obtain ⟨y_1,z1,h⟩:=AC h
 have fz1:=Ed z1
 try simp only [go_sem] at fz1
 obtain ⟨z2,h⟩:=AF h
 have lz2:=Au z2
 have xz2:=AK (AV.int .i64) list lz2
 try simp only [go_sem] at lz2
 try simp only [go_sem] at xz2
 try simp only [go_sem,n1,n2,n3,n4] at z2
 all_goals
 obtain rfl:=AB h
 refine ⟨0,fun L hL => ?_⟩
 simp only [go_sem,ACN,fz1,z2,lz2,xz2]
def xC:List Nat:=[0,2]
def jU:CI:=⟨1,2,.seq (.region false [ VO 1 2 (.mov (I6 0))]) (.seq (.test false [ PM 3 0,PO 4 (.call 29 [(.s 0),(I6 8)])] (.s 0) (.seq (.region false [ PM 5 0,PO 6 (.call 31 [(.s 0),(I6 22001)]),PO 7 (.bin false .add (.s 0) (.c (.int .i64 (-2000)))),VS 1 2 0]) (.ret)) (.skip)) (.seq (.region false [ PM 8 0,PO 9 (.call 31 [(.s 0),(I6 60)]),PO 10 (.bin false .mul (I6 50) (.s 0)),PO 11 (.bin false .add (I6 8000) (.s 0)),VS 1 2 0]) (.ret))),[.t 1]⟩
noncomputable def zz:List (Nat × Ax):=[(29,PH),(31,LH)]
theorem si:AR zz 29 = some PH:=rfl
theorem sg:AR zz 31 = some LH:=rfl
noncomputable def fY:Ax:=OE zz jU [.io]
theorem AFr:AU Tryz.prog 165 fY:=Bb _ (AG kV (AG au AP)) (by kernel_rfl:Af Tryz.prog 165 jU xC = true)
theorem M_12:fY.modes = [.io]:=rfl
theorem AKJ:fY.flat = false:=rfl
attribute [go_sem] M_12 AKJ si sg
theorem fo {s_:AQ} {y_:Int × AQ} (h:CU s_ = some y_):fY.F [.mem 3 [Ah s_] 0] = ⟨true,.int .i64 y_.1,[.mem 3 [Ah y_.2] 0]⟩:=by
 refine FC ?_
 dsimp only [CU] at h
 obtain ⟨y_1,z1,h⟩:=AC h
 have fz1:=Jy z1
 try simp only [go_sem] at fz1
 rcases AD h with ⟨z2,h⟩ | ⟨z2,h⟩
 ·try simp only [go_sem,n1,n2,n3,n4] at z2
  all_goals
  obtain ⟨y_3,z3,h⟩:=AC h
  have fz3:=Ed z3
  try simp only [go_sem,z2] at fz3
  obtain rfl:=AB h
  refine ⟨0,fun L hL => ?_⟩
  simp only [go_sem,jU,fz1,z2,fz3]
 ·try simp only [go_sem,n1,n2,n3,n4] at z2
  all_goals
  obtain ⟨y_4,z4,h⟩:=AC h
  have fz4:=Ed z4
  try simp only [go_sem,z2] at fz4
  obtain rfl:=AB h
  refine ⟨0,fun L hL => ?_⟩
  simp only [go_sem,jU,fz1,z2,fz4]
def xL:List Nat:=[0,2]
def jW:CI:=⟨1,2,.seq (.region false [ VO 1 2 (.mov (I6 0))]) (.seq (.test false [ PM 3 0,PO 4 (.call 29 [(.s 0),(I6 14)])] (.s 0) (.seq (.region false [ PM 5 0,PO 6 (.mkSl 1 (.int .i64 (0)) 6 [(0,(.c (.int .i64 (-2001)))),(1,(.c (.int .i64 (-2000)))),(2,(I6 20000)),(3,(I6 20001)),(4,(.c (.int .i64 (-9223372036854775808)))),(5,(I6 9223372036854775807))]),PO 7 (.call 30 [(.s 1),(.s 0)]),VS 1 2 0]) (.ret)) (.skip)) (.seq (.region false [ PM 8 0,PO 9 (.call 165 [(.s 0)]),VS 1 2 0]) (.ret))),[.t 1]⟩
noncomputable def vf:List (Nat × Ax):=[(29,PH),(30,Ld),(165,fY)]
theorem sf:AR vf 29 = some PH:=rfl
theorem se:AR vf 30 = some Ld:=rfl
theorem lr:AR vf 165 = some fY:=rfl
noncomputable def fX:Ax:=OE vf jW [.io]
theorem AFm:AU Tryz.prog 140 fX:=Bb _ (AG kV (AG da (AG AFr AP))) (by kernel_rfl:Af Tryz.prog 140 jW xL = true)
theorem M_13:fX.modes = [.io]:=rfl
theorem AKI:fX.flat = false:=rfl
attribute [go_sem] M_13 AKI sf se lr
theorem uv {s_:AQ} {y_:Int × AQ} (h:Fy s_ = some y_):fX.F [.mem 3 [Ah s_] 0] = ⟨true,.int .i64 y_.1,[.mem 3 [Ah y_.2] 0]⟩:=by
 refine FC ?_
 dsimp only [Fy] at h
 obtain ⟨y_1,z1,h⟩:=AC h
 have fz1:=Jy z1
 try simp only [go_sem] at fz1
 rcases AD h with ⟨z2,h⟩ | ⟨z2,h⟩
 ·try simp only [go_sem,n1,n2,n3,n4] at z2
  all_goals
  obtain ⟨y_3,z3,h⟩:=AC h
  have fz3:=MX z3
  try simp only [go_sem,z2] at fz3
  obtain rfl:=AB h
  refine ⟨0,fun L hL => ?_⟩
  simp only [go_sem,jW,fz1,z2,fz3]
 ·try simp only [go_sem,n1,n2,n3,n4] at z2
  all_goals
  obtain ⟨y_4,z4,h⟩:=AC h
  have fz4:=fo z4
  try simp only [go_sem,z2] at fz4
  obtain rfl:=AB h
  refine ⟨0,fun L hL => ?_⟩
  simp only [go_sem,jW,fz1,z2,fz4]
def xq:List Nat:=[0,2,3,7]
def Xn:CI:=⟨1,4,.seq (.region false [ VO 1 2 (.alloc (.agg [.int .i64 (0),.str [],.str [],.int .i64 (0),.bool false]))]) (.seq (.region false [ PM 4 0,PO 5 (.call 139 [(.s 0)]),VO 2 3 (.alloc (.agg [.int .i64 (0),.str [],.str [],.int .i64 (0),.bool false])),⟨.no,0,none,.store 5 (.v 2) (.s 0)⟩]) (.seq (.seq (.region false [ PM 6 0,VO 3 7 (.call 31 [(.s 0),(I6 24)])]) (.block 0 (.test false [ PO 9 (.bin false .eql (.v 3) (I6 0)),PO 8 (.mov (.s 0))] (.s 0) (.region false [ PM 10 0,PO 11 (.mkSl 1 (.int .i64 (0)) 4 [(0,(.c (.int .i64 (-1)))),(1,(I6 0)),(2,(I6
 10000000)),(3,(I6 10000001))]),PO 12 (.call 30 [(.s 1),(.s 0)]),PO 13 (.fldAddr 0 (.v 2)),⟨.no,0,none,.store 1 (.s 0) (.s 1)⟩]) (.test false [ PO 15 (.bin false .eql (.v 3) (I6 1)),PO 14 (.mov (.s 0))] (.s 0) (.region false [ PM 16 0,PO 17 (.mkSl 1 (.str []) 3 [(0,(.c (.str []))),(1,(.c (.str [77,105,114,97]))),(2,(.c (.str [97,32,98])))]),PO 18 (.call 105 [(.s 1),(.s 0)]),PO 19 (.fldAddr 1 (.v 2)),⟨.no,0,none,.store 1 (.s 0) (.s 1)⟩]) (.test false [ PO 21 (.bin false .eql (.v 3) (I6 2)),PO 20 (.mov (.s 0))] (.s 0) (.region false [ PM 22 0,PO 23 (.mkSl 1 (.str [])
 2 [(0,(.c (.str []))),(1,(.c (.str [65,66])))]),PO 24 (.call 105 [(.s 1),(.s 0)]),PO 25 (.fldAddr 2 (.v 2)),⟨.no,0,none,.store 1 (.s 0) (.s 1)⟩]) (.test false [ PO 27 (.bin false .eql (.v 3) (I6 3)),PO 26 (.mov (.s 0))] (.s 0) (.region false [ PM 28 0,PO 29 (.call 140 [(.s 0)]),PO 30 (.fldAddr 3 (.v 2)),⟨.no,0,none,.store 1 (.s 0) (.s 1)⟩]) (.skip))))))) (.seq (.region false [ PO 31 (.load true 5 (.v 2)),⟨.no,0,none,.store 5 (.v 1) (.s 0)⟩]) (.ret)))),[.cell true 5 1]⟩
noncomputable def kM:List (Nat × Ax):=[(139,zM),(31,LH),(30,Ld),(105,jz),(140,fX)]
theorem lp:AR kM 139 = some zM:=rfl
theorem sc:AR kM 31 = some LH:=rfl
theorem sd:AR kM 30 = some Ld:=rfl
theorem lq:AR kM 105 = some jz:=rfl
theorem lm:AR kM 140 = some fX:=rfl
noncomputable def pD:Ax:=OE kM Xn [.io]
theorem s_14:AU Tryz.prog 109 pD:=Bb _ (AG s_6 (AG au (AG da (AG s_5 (AG AFm AP))))) (by kernel_rfl:Af Tryz.prog 109 Xn xq = true)
theorem M_14:pD.modes = [.io]:=rfl
theorem AKH:pD.flat = false:=rfl
attribute [go_sem] M_14 AKH lp sc sd lq lm
theorem zg {s_:AQ} {y_:AA × AQ} (h:Ep s_ = some y_):pD.F [.mem 3 [Ah s_] 0] = ⟨true,AE y_.1,[.mem 3 [Ah y_.2] 0]⟩:=by
 refine FC ?_
 dsimp only [Ep] at h
 obtain ⟨y_1,z1,h⟩:=AC h
 have fz1:=AIC z1
 try simp only [go_sem] at fz1
 obtain ⟨y_2,z2,h⟩:=AC h
 have fz2:=Ed z2
 try simp only [go_sem] at fz2
 rcases AD h with ⟨z3,h⟩ | ⟨z3,h⟩
 ·try simp only [go_sem,n1,n2,n3,n4] at z3
  all_goals
  obtain ⟨y_4,z4,h⟩:=AC h
  have fz4:=MX z4
  try simp only [go_sem,z3] at fz4
  obtain rfl:=AB h
  refine ⟨0,fun L hL => ?_⟩
  simp only [go_sem,Xn,fz1,fz2,z3,fz4]
 ·try simp only [go_sem,n1,n2,n3,n4] at z3
  all_goals
  rcases AD h with ⟨z5,h⟩ | ⟨z5,h⟩
  ·try simp only [go_sem,n1,n2,n3,n4,z3] at z5
   all_goals
   obtain ⟨y_6,z6,h⟩:=AC h
   have fz6:=Yw z6
   try simp only [go_sem,z3,z5] at fz6
   obtain rfl:=AB h
   refine ⟨0,fun L hL => ?_⟩
   simp only [go_sem,Xn,fz1,fz2,z3,z5,fz6]
  ·try simp only [go_sem,n1,n2,n3,n4,z3] at z5
   all_goals
   rcases AD h with ⟨z7,h⟩ | ⟨z7,h⟩
   ·try simp only [go_sem,n1,n2,n3,n4,z3,z5] at z7
    all_goals
    obtain ⟨y_8,z8,h⟩:=AC h
    have fz8:=Yw z8
    try simp only [go_sem,z3,z5,z7] at fz8
    obtain rfl:=AB h
    refine ⟨0,fun L hL => ?_⟩
    simp only [go_sem,Xn,fz1,fz2,z3,z5,z7,fz8]
   ·try simp only [go_sem,n1,n2,n3,n4,z3,z5] at z7
    all_goals
    rcases AD h with ⟨z9,h⟩ | ⟨z9,h⟩
    ·try simp only [go_sem,n1,n2,n3,n4,z3,z5,z7] at z9
     all_goals
     obtain ⟨y_10,z10,h⟩:=AC h
     have fz10:=uv z10
     try simp only [go_sem,z3,z5,z7,z9] at fz10
     obtain rfl:=AB h
     refine ⟨0,fun L hL => ?_⟩
     simp only [go_sem,Xn,fz1,fz2,z3,z5,z7,z9,fz10]
    ·try simp only [go_sem,n1,n2,n3,n4,z3,z5,z7] at z9
     all_goals
     obtain rfl:=AB h
     refine ⟨0,fun L hL => ?_⟩
     simp only [go_sem,Xn,fz1,fz2,z3,z5,z7,z9]
def bq:IR:=.seq (.test false [ PM 22 3,PO 23 (.bin false .gtr (.s 0) (I6 0))] (.s 0) (.skip) (.exit 1)) (.seq (.block 2 (.region false [ PM 26 2,PM 27 2,PO 28 (.len false (.s 0)),PO 29 (.build [.int .i64 (0),.str [],.str [],.int .i64 (0),.bool false] [(0,1,(.s 0)),(1,1,(.c (.str [109,105,114,97]))),(2,1,(.c (.str [97,98]))),(3,1,(I6 9000))]),PO 30 (.mkSl 5 (.agg [.int .i64 (0),.str [],.str [],.int .i64 (0),.bool false]) 1 [(0,(.s 0))]),PO 31 (.app 5 56 (.agg [.int .i64 (0),.str [],.str [],.int .i64 (0),.bool false]) (.s 4) (.s 0)),VS 2 3 0])) (.region
 false [ PM 24 3,PO 25 (.bin false .sub (.s 0) (I6 1)),VS 3 4 0]))
def Ue:List Bool:=[true,false,true,true,false]
def Ud:List Bool:=[true,false,true,false,false]
def Uc:List Bool:=[true,true,false,false,false]
def ABT:List Nat:=[0,2,3,4,8]
def wg:CI:=⟨1,5,.seq (.region false [ VO 1 2 (.newnil 5)]) (.seq (.region false [ PM 5 0,PO 6 (.call 108 [(.s 0),(I6 10)]),VS 2 3 0]) (.seq (.seq (.region false [ PM 7 0,VO 4 8 (.call 31 [(.s 0),(I6 20)])]) (.block 0 (.test false [ PO 10 (.bin false .eql (.v 4) (I6 0)),PO 9 (.mov (.s 0))] (.s 0) (.region false [ PM 11 2,PM 12 0,PO 13 (.call 109 [(.s 0)]),PO 14 (.mkSl 5 (.agg [.int .i64 (0),.str [],.str [],.int .i64 (0),.bool false]) 1 [(0,(.s 0))]),PO 15 (.app 5 56 (.agg [.int .i64 (0),.str [],.str [],.int .i64 (0),.bool false]) (.s 3) (.s 0)),VS 2 3 0]) (.test
 false [ PO 17 (.bin false .eql (.v 4) (I6 1)),PO 16 (.mov (.s 0))] (.s 0) (.seq (.region false [ PO 18 (.mkSl 5 (.agg [.int .i64 (0),.str [],.str [],.int .i64 (0),.bool false]) 0 []),VS 2 3 0]) (.seq (.region false [ PM 19 0,PO 20 (.call 31 [(.s 0),(I6 2)]),PO 21 (.bin false .add (I6 100) (.s 0)),VS 3 4 0]) (.block 1 (.loop Ue Ud Uc bq)))) (.test false [ PO 33 (.bin false .eql (.v 4) (I6 2)),PO 32 (.mov (.s 0))] (.s 0) (.test false [ PM 34 2,PO 35 (.len false (.s 0)),PO 36 (.bin false .gtr (.s 0) (I6 0))] (.s 0) (.region false [ PM 37 2,PM 38 0,PM 39 2,PO 40
 (.len false (.s 0)),PO 41 (.call 31 [(.s 2),(.s 0)]),PM 42 0,PO 43 (.call 109 [(.s 0)]),PO 44 (.ixAddr 5 (.s 6) (.s 2)),⟨.no,0,none,.store 5 (.s 0) (.s 1)⟩]) (.skip)) (.skip)))))) (.seq (.region false [ PM 45 2,VS 1 2 0]) (.ret)))),[.t 1]⟩
noncomputable def pg:List (Nat × Ax):=[(108,pE),(31,LH),(109,pD)]
theorem ll:AR pg 108 = some pE:=rfl
theorem sZ:AR pg 31 = some LH:=rfl
theorem lk:AR pg 109 = some pD:=rfl
noncomputable def pC:Ax:=OE pg wg [.io]
theorem s_15:AU Tryz.prog 65 pC:=Bb _ (AG s_10 (AG au (AG s_14 AP))) (by kernel_rfl:Af Tryz.prog 65 wg ABT = true)
theorem M_15:pC.modes = [.io]:=rfl
theorem AKG:pC.flat = false:=rfl
attribute [go_sem] M_15 AKG ll sZ lk
def Wu (s_:AQ):((List AA) × Int) → St
 | (list,k) => ⟨[.ref 31 0 0,.any,.own 3200032,.int .i64 k,.any],[],[(31,⟨3,[Ah s_]⟩),(3200032,⟨5,List.map AE list⟩)],true⟩
def WQ (s_:AQ) (y:(List AA)):EB:=(.exit 1,⟨[.ref 31 0 0,.any,.own 3200032,.any,.any],[],[(31,⟨3,[Ah s_]⟩),(3200032,⟨5,List.map AE y⟩)],true⟩)
attribute [local go_sem] wg Wu WQ bq Ue Ud Uc in
theorem OV {s_:AQ} {sgm_:(List AA) × Int} {rho_:(List AA)} (h:AL (Dr s_) sgm_ = some rho_):∃ L0,∀ L,L0 ≤ L → Bk (Az (AR pg) L bq) Ue Ud Uc L (Wu s_ sgm_) = WQ s_ rho_:=by
 refine As (E:=Wu s_) (R:=WQ s_) (fun y => by first | (intro c; cases c) | (rcases y with y | y <;> (intro c; cases c)) | (rcases y with y | y | y <;> (intro c; cases c))) ?_ h
 clear h
 rintro ⟨list,k⟩ o_ h
 dsimp only [Dr] at h
 rcases AD h with ⟨z8,h⟩ | ⟨z8,h⟩
 ·try simp only [go_sem,n1,n2,n3,n4] at z8
  all_goals
  obtain ⟨z9,h⟩:=AF h
  try simp only [go_sem,n1,n2,n3,n4,z8] at z9
  all_goals
  obtain rfl:=AB h
  refine ⟨0,fun L hL => ?_⟩
  simp only [go_sem,z8,z9]
 ·try simp only [go_sem,n1,n2,n3,n4] at z8
  all_goals
  obtain rfl:=AB h
  refine ⟨0,fun L hL => ?_⟩
  simp only [go_sem,z8]
attribute [local go_sem] wg Wu WQ Ue Ud Uc in
theorem AIc {s_:AQ} {y_:(List AA) × AQ} (h:Ia s_ = some y_):pC.F [.mem 3 [Ah s_] 0] = ⟨true,.fresh 5 (List.map AE y_.1),[.mem 3 [Ah y_.2] 0]⟩:=by
 refine FC ?_
 dsimp only [Ia] at h
 obtain ⟨y_1,z1,h⟩:=AC h
 have fz1:=AId z1
 try simp only [go_sem] at fz1
 obtain ⟨y_2,z2,h⟩:=AC h
 have fz2:=Ed z2
 try simp only [go_sem] at fz2
 rcases AD h with ⟨z3,h⟩ | ⟨z3,h⟩
 ·try simp only [go_sem,n1,n2,n3,n4] at z3
  all_goals
  obtain ⟨y_4,z4,h⟩:=AC h
  have fz4:=zg z4
  try simp only [go_sem,z3] at fz4
  obtain ⟨z5,h⟩:=AF h
  try simp only [go_sem,n1,n2,n3,n4,z3] at z5
  all_goals
  obtain rfl:=AB h
  refine ⟨0,fun L hL => ?_⟩
  simp only [go_sem,fz1,fz2,z3,fz4,z5]
 ·try simp only [go_sem,n1,n2,n3,n4] at z3
  all_goals
  rcases AD h with ⟨z6,h⟩ | ⟨z6,h⟩
  ·try simp only [go_sem,n1,n2,n3,n4,z3] at z6
   all_goals
   obtain ⟨y_7,z7,h⟩:=AC h
   have fz7:=Ed z7
   try simp only [go_sem,z3,z6] at fz7
   obtain ⟨y_10,z10,h⟩:=AC h
   obtain ⟨Lz10,ez10⟩:=OV z10
   obtain rfl:=AB h
   refine ⟨Lz10,fun L hL => ?_⟩
   have ez10:=ez10 L (by omega)
   try simp only [go_sem,z3,z6] at ez10
   simp only [go_sem,fz1,fz2,z3,z6,fz7,ez10]
  ·try simp only [go_sem,n1,n2,n3,n4,z3] at z6
   all_goals
   rcases AD h with ⟨z11,h⟩ | ⟨z11,h⟩
   ·try simp only [go_sem,n1,n2,n3,n4,z3,z6] at z11
    all_goals
    rcases AD h with ⟨z12,h⟩ | ⟨z12,h⟩
    ·try simp only [go_sem,n1,n2,n3,n4,z3,z6,z11] at z12
     all_goals
     obtain ⟨y_13,z13,h⟩:=AC h
     have fz13:=Ed z13
     try simp only [go_sem,z3,z6,z11,z12] at fz13
     obtain ⟨y_14,z14,h⟩:=AC h
     have fz14:=zg z14
     try simp only [go_sem,z3,z6,z11,z12] at fz14
     obtain ⟨z15,h⟩:=AF h
     have lz15:=Au z15
     have xz15:=AK AE y_1.1 lz15
     try simp only [go_sem] at lz15
     try simp only [go_sem] at xz15
     try simp only [go_sem,n1,n2,n3,n4,z3,z6,z11,z12] at z15
     all_goals
     obtain rfl:=AB h
     refine ⟨0,fun L hL => ?_⟩
     simp only [go_sem,fz1,fz2,z3,z6,z11,z12,fz13,fz14,z15,lz15,xz15]
    ·try simp only [go_sem,n1,n2,n3,n4,z3,z6,z11] at z12
     all_goals
     obtain rfl:=AB h
     refine ⟨0,fun L hL => ?_⟩
     simp only [go_sem,fz1,fz2,z3,z6,z11,z12]
   ·try simp only [go_sem,n1,n2,n3,n4,z3,z6] at z11
    all_goals
    obtain rfl:=AB h
    refine ⟨0,fun L hL => ?_⟩
    simp only [go_sem,fz1,fz2,z3,z6,z11]
def ABz:List Nat:=[0,1,2,6]
def ACA:CI:=⟨3,4,.seq (.region false [ VO 3 6 (.mov (.c (.bool false)))]) (.seq (.region false [ PM 7 0,PM 8 1,PO 9 (.bin false .geq (.s 1) (.s 0)),PO 10 (.mov (.s 0)),⟨.push,11,(some ((.s 0),true)),.mov (.v 0)⟩,⟨.push,12,(some ((.s 1),true)),.mov (.v 2)⟩,⟨.push,13,(some ((.s 2),true)),.bin false .leq (.s 1) (.s 0)⟩,PO 14 (.pick (.s 3) (.s 0) (.c (.bool false))),VS 3 6 0]) (.ret)),[.t 3]⟩
noncomputable def t_16:List (Nat × Ax):=[]
noncomputable def Lc:Ax:=Di t_16 ACA [.bor,.bor,.bor]
theorem dZ:AU Tryz.prog 40 Lc:=AM _ rfl AP (by kernel_rfl:Af Tryz.prog 40 ACA ABz = true)
theorem M_16:Lc.modes = [.bor,.bor,.bor]:=rfl
theorem AKF:Lc.flat = true:=rfl
attribute [go_sem] M_16 AKF
theorem TY {n:Int} {low:Int} {high:Int} {y_:Bool} (h:Dv n low high = some y_):Lc.F [.int .i64 n,.int .i64 low,.int .i64 high] = ⟨true,.bool y_,[.any,.any,.any]⟩:=by
 refine Ay rfl ?_
 dsimp only [Dv] at h
 obtain rfl:=AB h
 refine ⟨0,fun L hL => ?_⟩
 simp only [go_sem,ACA]
def xo:List Nat:=[0,2]
def tb:CI:=⟨1,2,.seq (.region false [ VO 1 2 (.mov (.c (.bool false)))]) (.seq (.region false [ PM 3 0,PO 4 (.call 40 [(.s 0),(I6 0),(I6 10000000)]),VS 1 2 0]) (.ret)),[.t 1]⟩
noncomputable def AFC:List (Nat × Ax):=[(40,Lc)]
theorem sY:AR AFC 40 = some Lc:=rfl
noncomputable def pB:Ax:=Di AFC tb [.bor]
theorem s_17:AU Tryz.prog 110 pB:=AM _ rfl (AG dZ AP) (by kernel_rfl:Af Tryz.prog 110 tb xo = true)
theorem M_17:pB.modes = [.bor]:=rfl
theorem AKE:pB.flat = true:=rfl
attribute [go_sem] M_17 AKE sY
theorem AIb {n:Int} {y_:Bool} (h:Jt n = some y_):pB.F [.int .i64 n] = ⟨true,.bool y_,[.any]⟩:=by
 refine Ay rfl ?_
 dsimp only [Jt] at h
 obtain ⟨y_1,z1,h⟩:=AC h
 have fz1:=TY z1
 try simp only [go_sem] at fz1
 obtain rfl:=AB h
 refine ⟨0,fun L hL => ?_⟩
 simp only [go_sem,tb,fz1]
def xK:List Nat:=[0,2]
def tQ:CI:=⟨1,2,.seq (.region false [ VO 1 2 (.mov (.c (.bool false)))]) (.seq (.region false [ PM 3 0,PO 4 (.bin false .geq (.s 0) (.c (.int .u8 (97)))),PO 5 (.mov (.s 0)),⟨.push,6,(some ((.s 0),true)),.mov (.v 0)⟩,⟨.push,7,(some ((.s 1),true)),.bin false .leq (.s 0) (.c (.int .u8 (122)))⟩,PO 8 (.pick (.s 2) (.s 0) (.c (.bool false))),VS 1 2 0]) (.ret)),[.t 1]⟩
noncomputable def t_18:List (Nat × Ax):=[]
noncomputable def pA:Ax:=Di t_18 tQ [.bor]
theorem s_18:AU Tryz.prog 141 pA:=AM _ rfl AP (by kernel_rfl:Af Tryz.prog 141 tQ xK = true)
theorem M_18:pA.modes = [.bor]:=rfl
theorem AKD:pA.flat = true:=rfl
attribute [go_sem] M_18 AKD
theorem zf {c:UInt8} {y_:Bool} (h:FT c = some y_):pA.F [.int .u8 (c.toNat:Int)] = ⟨true,.bool y_,[.any]⟩:=by
 refine Ay rfl ?_
 dsimp only [FT] at h
 obtain rfl:=AB h
 refine ⟨0,fun L hL => ?_⟩
 simp only [go_sem,tQ]
def xu:List Nat:=[0,2]
def tc:CI:=⟨1,2,.seq (.region false [ VO 1 2 (.mov (.c (.bool false)))]) (.seq (.region false [ PM 3 0,PO 4 (.bin false .geq (.s 0) (.c (.int .u8 (48)))),PO 5 (.mov (.s 0)),⟨.push,6,(some ((.s 0),true)),.mov (.v 0)⟩,⟨.push,7,(some ((.s 1),true)),.bin false .leq (.s 0) (.c (.int .u8 (57)))⟩,PO 8 (.pick (.s 2) (.s 0) (.c (.bool false))),VS 1 2 0]) (.ret)),[.t 1]⟩
noncomputable def t_19:List (Nat × Ax):=[]
noncomputable def fW:Ax:=Di t_19 tc [.bor]
theorem AFd:AU Tryz.prog 106 fW:=AM _ rfl AP (by kernel_rfl:Af Tryz.prog 106 tc xu = true)
theorem M_19:fW.modes = [.bor]:=rfl
theorem AKC:fW.flat = true:=rfl
attribute [go_sem] M_19 AKC
theorem ut {c:UInt8} {y_:Bool} (h:De c = some y_):fW.F [.int .u8 (c.toNat:Int)] = ⟨true,.bool y_,[.any]⟩:=by
 refine Ay rfl ?_
 dsimp only [De] at h
 obtain rfl:=AB h
 refine ⟨0,fun L hL => ?_⟩
 simp only [go_sem,tc]
def Xm:IR:=.seq (.test false [ PM 17 2,PM 18 0,PO 19 (.len true (.s 0)),PO 20 (.bin false .lss (.s 2) (.s 0))] (.s 0) (.skip) (.exit 0)) (.seq (.block 1 (.test false [ PM 23 0,PM 24 2,PO 25 (.ixStr (.s 1) (.s 0)),PO 26 (.call 141 [(.s 0)]),PO 27 (.un .not (.s 0)),PO 28 (.mov (.s 0)),⟨.push,29,(some ((.s 0),true)),.mov (.v 0)⟩,⟨.push,30,(some ((.s 1),true)),.mov (.v 2)⟩,⟨.push,31,(some ((.s 2),true)),.ixStr (.s 1) (.s 0)⟩,⟨.push,32,(some ((.s 3),true)),.call 106 [(.s 0)]⟩,⟨.push,33,(some ((.s 4),true)),.un .not (.s 0)⟩,PO 34 (.pick (.s 5) (.s 0) (.c
 (.bool false))),PO 35 (.mov (.s 0)),⟨.push,36,(some ((.s 0),true)),.mov (.v 0)⟩,⟨.push,37,(some ((.s 1),true)),.mov (.v 2)⟩,⟨.push,38,(some ((.s 2),true)),.ixStr (.s 1) (.s 0)⟩,⟨.push,39,(some ((.s 3),true)),.bin false .neq (.s 0) (.c (.int .u8 (45)))⟩,PO 40 (.pick (.s 4) (.s 0) (.c (.bool false)))] (.s 0) (.seq (.region false [ VO 1 2 (.mov (.c (.bool false)))]) (.ret)) (.skip))) (.region false [ PM 21 2,PO 22 (.bin false .add (.s 0) (I6 1)),VS 2 3 0]))
def Qf:List Bool:=[true,false,true]
def Qe:List Bool:=[false,false,false]
def Qd:List Bool:=[false,true,false]
def xn:List Nat:=[0,2,3]
def jh:CI:=⟨1,3,.seq (.region false [ VO 1 2 (.mov (.c (.bool false)))]) (.seq (.test false [ PM 4 0,PO 5 (.bin false .eql (.s 0) (.c (.str []))),PO 6 (.mov (.s 0)),⟨.push,7,(some ((.s 0),false)),.mov (.v 0)⟩,⟨.push,8,(some ((.s 1),false)),.len true (.s 0)⟩,⟨.push,9,(some ((.s 2),false)),.bin false .gtr (.s 0) (I6 12)⟩,PO 10 (.pick (.s 3) (.c (.bool true)) (.s 0)),PO 11 (.mov (.s 0)),⟨.push,12,(some ((.s 0),false)),.mov (.v 0)⟩,⟨.push,13,(some ((.s 1),false)),.ixStr (.s 0) (I6 0)⟩,⟨.push,14,(some ((.s 2),false)),.call 141 [(.s 0)]⟩,⟨.push,15,(some
 ((.s 3),false)),.un .not (.s 0)⟩,PO 16 (.pick (.s 4) (.c (.bool true)) (.s 0))] (.s 0) (.seq (.region false [ VO 1 2 (.mov (.c (.bool false)))]) (.ret)) (.skip)) (.seq (.seq (.region false [ VO 2 3 (.mov (I6 0))]) (.block 0 (.loop Qf Qe Qd Xm))) (.seq (.region false [ VO 1 2 (.mov (.c (.bool true)))]) (.ret)))),[.t 1]⟩
noncomputable def ve:List (Nat × Ax):=[(141,pA),(106,fW)]
theorem li:AR ve 141 = some pA:=rfl
theorem lj:AR ve 106 = some fW:=rfl
noncomputable def Yu:Ax:=Di ve jh [.bor]
theorem AAQ:AU Tryz.prog 111 Yu:=AM _ rfl (AG s_18 (AG AFd AP)) (by kernel_rfl:Af Tryz.prog 111 jh xn = true)
theorem M_20:Yu.modes = [.bor]:=rfl
theorem AKB:Yu.flat = true:=rfl
attribute [go_sem] M_20 AKB li lj
def Wt (s_:List UInt8):Int → St
 | i => ⟨[.str s_,.any,.int .i64 i],[],[],true⟩
def WP (s_:List UInt8):(Unit ⊕ Bool) → EB
 | .inl y => (.exit 0,⟨[.any,.any,.any],[],[],true⟩)
 | .inr y => (.ret,⟨[.any,.bool y,.any],[],[],true⟩)
attribute [local go_sem] jh Wt WP Xm Qf Qe Qd in
theorem Kh {s_:List UInt8} {sgm_:Int} {rho_:Unit ⊕ Bool} (h:AL (Fg s_) sgm_ = some rho_):∃ L0,∀ L,L0 ≤ L → Bk (Az (AR ve) L Xm) Qf Qe Qd L (Wt s_ sgm_) = WP s_ rho_:=by
 refine As (E:=Wt s_) (R:=WP s_) (fun y => by first | (intro c; cases c) | (rcases y with y | y <;> (intro c; cases c)) | (rcases y with y | y | y <;> (intro c; cases c))) ?_ h
 clear h
 intro i o_ h
 dsimp only [Fg] at h
 rcases AD h with ⟨z4,h⟩ | ⟨z4,h⟩
 ·try simp only [go_sem,n1,n2,n3,n4] at z4
  all_goals
  obtain ⟨z5,h⟩:=AF h
  try simp only [go_sem,n1,n2,n3,n4,z4] at z5
  all_goals
  obtain ⟨y_6,z6,h⟩:=AC h
  have fz6:=zf z6
  try simp only [go_sem,z4,z5] at fz6
  obtain ⟨z7,h⟩:=AF h
  rcases Ab z7 with ⟨gz7,z7⟩ | gz7
  ·try simp only [go_sem,n1,n2,n3,n4,z4,z5] at gz7
   all_goals
   obtain ⟨y_7,hz7⟩:=Option.isSome_iff_exists.1 z7
   have fz7:=ut hz7
   try simp only [go_sem,n1,n2,n3,n4,z4,z5,gz7] at hz7
   all_goals
   try simp only [go_sem,z4,z5,gz7] at fz7
   rcases AD h with ⟨z8,h⟩ | ⟨z8,h⟩
   all_goals
   try simp only [go_sem,n1,n2,n3,n4,z4,z5,gz7,hz7] at z8
   all_goals
   obtain rfl:=AB h
   refine ⟨0,fun L hL => ?_⟩
   simp only [go_sem,z4,z5,fz6,gz7,hz7,fz7,z8]
  ·have gz7n:=DT gz7
   try simp only [go_sem,n1,n2,n3,n4,z4,z5] at gz7n
   all_goals
   rcases AD h with ⟨z8,h⟩ | ⟨z8,h⟩
   ·try simp only [go_sem,n1,n2,n3,n4,z4,z5,gz7n] at z8
    all_goals
    (simp_all)
   ·try simp only [go_sem,n1,n2,n3,n4,z4,z5,gz7n] at z8
    all_goals
    obtain rfl:=AB h
    refine ⟨0,fun L hL => ?_⟩
    simp only [go_sem,z4,z5,fz6,gz7n,z8]
 ·try simp only [go_sem,n1,n2,n3,n4] at z4
  all_goals
  obtain rfl:=AB h
  refine ⟨0,fun L hL => ?_⟩
  simp only [go_sem,z4]
attribute [local go_sem] jh Wt WP Qf Qe Qd in
theorem kD {s_:List UInt8} {y_:Bool} (h:Cw s_ = some y_):Yu.F [.str s_] = ⟨true,.bool y_,[.any]⟩:=by
 refine Ay rfl ?_
 dsimp only [Cw] at h
 obtain ⟨z1,h⟩:=AF h
 rcases Ab z1 with ⟨gz1,z1⟩ | gz1
 ·try simp only [go_sem,n1,n2,n3,n4] at gz1
  all_goals
  try simp only [go_sem,n1,n2,n3,n4,gz1] at z1
  all_goals
  obtain ⟨z2,h⟩:=AF h
  rcases Ab z2 with ⟨gz2,z2⟩ | gz2
  ·try simp only [go_sem,n1,n2,n3,n4,gz1,z1] at gz2
   all_goals
   obtain ⟨y_2,hz2⟩:=Option.isSome_iff_exists.1 z2
   have fz2:=zf hz2
   try simp only [go_sem,n1,n2,n3,n4,gz1,z1,gz2] at hz2
   all_goals
   try simp only [go_sem,gz1,z1,gz2] at fz2
   rcases AD h with ⟨z3,h⟩ | ⟨z3,h⟩
   ·try simp only [go_sem,n1,n2,n3,n4,gz1,z1,gz2,hz2] at z3
    all_goals
    obtain rfl:=AB h
    refine ⟨0,fun L hL => ?_⟩
    simp only [go_sem,gz1,z1,gz2,hz2,fz2,z3]
   ·try simp only [go_sem,n1,n2,n3,n4,gz1,z1,gz2,hz2] at z3
    all_goals
    obtain ⟨y_9,z9,h⟩:=AC h
    obtain ⟨Lz9,ez9⟩:=Kh z9
    rcases y_9 with y_9a | y_9b
    all_goals
    dsimp only at h
    obtain rfl:=AB h
    refine ⟨Lz9,fun L hL => ?_⟩
    have ez9:=ez9 L (by omega)
    try simp only [go_sem,gz1,z1,gz2,hz2,z3] at ez9
    simp only [go_sem,gz1,z1,gz2,hz2,fz2,z3,ez9]
  ·have gz2n:=DT gz2
   rcases gU gz2n with gz2na | ⟨gz2na,gz2nb⟩
   ·try simp only [go_sem,n1,n2,n3,n4,gz1,z1] at gz2na
    all_goals
    (simp_all)
   ·try simp only [go_sem,n1,n2,n3,n4,gz1,z1] at gz2na
    all_goals
    try simp only [go_sem,n1,n2,n3,n4,gz1,z1,gz2na] at gz2nb
    all_goals
    rcases AD h with ⟨z3,h⟩ | ⟨z3,h⟩
    ·try simp only [go_sem,n1,n2,n3,n4,gz1,z1,gz2na,gz2nb] at z3
     all_goals
     obtain rfl:=AB h
     refine ⟨0,fun L hL => ?_⟩
     simp only [go_sem,gz1,z1,gz2na,gz2nb,z3]
    ·try simp only [go_sem,n1,n2,n3,n4,gz1,z1,gz2na,gz2nb] at z3
     all_goals
     obtain ⟨y_9,z9,h⟩:=AC h
     obtain ⟨Lz9,ez9⟩:=Kh z9
     rcases y_9 with y_9a | y_9b
     all_goals
     dsimp only at h
     obtain rfl:=AB h
     refine ⟨Lz9,fun L hL => ?_⟩
     have ez9:=ez9 L (by omega)
     try simp only [go_sem,gz1,z1,gz2na,gz2nb,z3] at ez9
     simp only [go_sem,gz1,z1,gz2na,gz2nb,z3,ez9]
 ·have gz1n:=DT gz1
  rcases gU gz1n with gz1na | ⟨gz1na,gz1nb⟩
  ·try simp only [go_sem,n1,n2,n3,n4] at gz1na
   all_goals
   obtain ⟨z2,h⟩:=AF h
   rcases AD h with ⟨z3,h⟩ | ⟨z3,h⟩
   ·try simp only [go_sem,n1,n2,n3,n4,gz1na] at z3
    all_goals
    obtain rfl:=AB h
    refine ⟨0,fun L hL => ?_⟩
    simp only [go_sem,gz1na,z3]
   ·try simp only [go_sem,n1,n2,n3,n4,gz1na] at z3
    all_goals
    (simp_all)
  ·try simp only [go_sem,n1,n2,n3,n4] at gz1na
   all_goals
   try simp only [go_sem,n1,n2,n3,n4,gz1na] at gz1nb
   all_goals
   obtain ⟨z2,h⟩:=AF h
   rcases AD h with ⟨z3,h⟩ | ⟨z3,h⟩
   ·try simp only [go_sem,n1,n2,n3,n4,gz1na,gz1nb] at z3
    all_goals
    obtain rfl:=AB h
    refine ⟨0,fun L hL => ?_⟩
    simp only [go_sem,gz1na,gz1nb,z3]
   ·try simp only [go_sem,n1,n2,n3,n4,gz1na,gz1nb] at z3
    all_goals
    (simp_all)
def xm:List Nat:=[0,2]
def ta:CI:=⟨1,2,.seq (.region false [ VO 1 2 (.mov (.c (.bool false)))]) (.seq (.region false [ PM 3 0,PO 4 (.call 40 [(.s 0),(.c (.int .i64 (-2000))),(I6 20000)]),VS 1 2 0]) (.ret)),[.t 1]⟩
noncomputable def AFB:List (Nat × Ax):=[(40,Lc)]
theorem sX:AR AFB 40 = some Lc:=rfl
noncomputable def fV:Ax:=Di AFB ta [.bor]
theorem AFc:AU Tryz.prog 112 fV:=AM _ rfl (AG dZ AP) (by kernel_rfl:Af Tryz.prog 112 ta xm = true)
theorem M_21:fV.modes = [.bor]:=rfl
theorem AKA:fV.flat = true:=rfl
attribute [go_sem] M_21 AKA sX
theorem us {m:Int} {y_:Bool} (h:Dk m = some y_):fV.F [.int .i64 m] = ⟨true,.bool y_,[.any]⟩:=by
 refine Ay rfl ?_
 dsimp only [Dk] at h
 obtain ⟨y_1,z1,h⟩:=AC h
 have fz1:=TY z1
 try simp only [go_sem] at fz1
 obtain rfl:=AB h
 refine ⟨0,fun L hL => ?_⟩
 simp only [go_sem,ta,fz1]
def ABS:List Nat:=[0,2]
def nE:CI:=⟨1,2,.seq (.region false [ VO 1 2 (.mov (.c (.bool false)))]) (.seq (.region false [ PM 3 0,PO 4 (.nilck (.s 0)),PO 5 (.fldAddr 0 (.s 0)),PO 6 (.load false 1 (.s 0)),PO 7 (.call 110 [(.s 0)]),PO 8 (.mov (.s 0)),⟨.push,9,(some ((.s 0),true)),.mov (.v 0)⟩,⟨.push,10,(some ((.s 1),true)),.nilck (.s 0)⟩,⟨.push,11,(some ((.s 2),true)),.fldAddr 1 (.s 0)⟩,⟨.push,12,(some ((.s 3),true)),.load false 1 (.s 0)⟩,⟨.push,13,(some ((.s 4),true)),.call 111 [(.s 0)]⟩,PO 14 (.pick (.s 5) (.s 0) (.c (.bool false))),PO 15 (.mov (.s 0)),⟨.push,16,(some ((.s 0),
 true)),.mov (.v 0)⟩,⟨.push,17,(some ((.s 1),true)),.nilck (.s 0)⟩,⟨.push,18,(some ((.s 2),true)),.fldAddr 2 (.s 0)⟩,⟨.push,19,(some ((.s 3),true)),.load false 1 (.s 0)⟩,⟨.push,20,(some ((.s 4),true)),.call 111 [(.s 0)]⟩,PO 21 (.pick (.s 5) (.s 0) (.c (.bool false))),PO 22 (.mov (.s 0)),⟨.push,23,(some ((.s 0),true)),.mov (.v 0)⟩,⟨.push,24,(some ((.s 1),true)),.nilck (.s 0)⟩,⟨.push,25,(some ((.s 2),true)),.fldAddr 3 (.s 0)⟩,⟨.push,26,(some ((.s 3),true)),.load false 1 (.s 0)⟩,⟨.push,27,(some ((.s 4),true)),.call 112 [(.s 0)]⟩,PO 28 (.pick (.s 5)
 (.s 0) (.c (.bool false))),VS 1 2 0]) (.ret)),[.t 1]⟩
noncomputable def vd:List (Nat × Ax):=[(110,pB),(111,Yu),(112,fV)]
theorem lh:AR vd 110 = some pB:=rfl
theorem lg:AR vd 111 = some Yu:=rfl
theorem lf:AR vd 112 = some fV:=rfl
noncomputable def fU:Ax:=Di vd nE [.bor]
theorem AFb:AU Tryz.prog 66 fU:=AM _ rfl (AG s_17 (AG AAQ (AG AFc AP))) (by kernel_rfl:Af Tryz.prog 66 nE ABS = true)
theorem M_22:fU.modes = [.bor]:=rfl
theorem AJz:fU.flat = true:=rfl
attribute [go_sem] M_22 AJz lh lg lf
theorem ze {e_:AA} {y_:Bool} (h:IC e_ = some y_):fU.F [.ptr 5 [AE e_] 0 0] = ⟨true,.bool y_,[.any]⟩:=by
 refine Ay rfl ?_
 dsimp only [IC] at h
 obtain ⟨y_1,z1,h⟩:=AC h
 have fz1:=AIb z1
 try simp only [go_sem] at fz1
 obtain ⟨z2,h⟩:=AF h
 rcases Ab z2 with ⟨gz2,z2⟩ | gz2
 ·try simp only [go_sem,n1,n2,n3,n4] at gz2
  all_goals
  obtain ⟨y_2,hz2⟩:=Option.isSome_iff_exists.1 z2
  have fz2:=kD hz2
  try simp only [go_sem,n1,n2,n3,n4,gz2] at hz2
  all_goals
  try simp only [go_sem,gz2] at fz2
  obtain ⟨z3,h⟩:=AF h
  rcases Ab z3 with ⟨gz3,z3⟩ | gz3
  ·try simp only [go_sem,n1,n2,n3,n4,gz2,hz2] at gz3
   all_goals
   obtain ⟨y_3,hz3⟩:=Option.isSome_iff_exists.1 z3
   have fz3:=kD hz3
   try simp only [go_sem,n1,n2,n3,n4,gz2,hz2,gz3] at hz3
   all_goals
   try simp only [go_sem,gz2,hz2,gz3] at fz3
   obtain ⟨z4,h⟩:=AF h
   rcases Ab z4 with ⟨gz4,z4⟩ | gz4
   ·try simp only [go_sem,n1,n2,n3,n4,gz2,hz2,gz3,hz3] at gz4
    all_goals
    obtain ⟨y_4,hz4⟩:=Option.isSome_iff_exists.1 z4
    have fz4:=us hz4
    try simp only [go_sem,n1,n2,n3,n4,gz2,hz2,gz3,hz3,gz4] at hz4
    all_goals
    try simp only [go_sem,gz2,hz2,gz3,hz3,gz4] at fz4
    obtain rfl:=AB h
    refine ⟨0,fun L hL => ?_⟩
    simp only [go_sem,nE,fz1,gz2,hz2,fz2,gz3,hz3,fz3,gz4,hz4,fz4]
   ·rcases DA gz4 with gz4a | ⟨gz4a,gz4b⟩
    ·try simp only [go_sem,n1,n2,n3,n4,gz2,hz2,gz3,hz3] at gz4a
     all_goals
     (simp_all)
    ·obtain ⟨gz4aa,gz4ab⟩:=RC gz4a
     try simp only [go_sem,n1,n2,n3,n4,gz2,hz2,gz3,hz3] at gz4aa
     all_goals
     try simp only [go_sem,n1,n2,n3,n4,gz2,hz2,gz3,hz3,gz4aa] at gz4ab
     all_goals
     try simp only [go_sem,n1,n2,n3,n4,gz2,hz2,gz3,hz3,gz4aa,gz4ab] at gz4b
     all_goals
     obtain rfl:=AB h
     refine ⟨0,fun L hL => ?_⟩
     simp only [go_sem,nE,fz1,gz2,hz2,fz2,gz3,hz3,fz3,gz4aa,gz4ab,gz4b]
  ·rcases DA gz3 with gz3a | ⟨gz3a,gz3b⟩
   ·try simp only [go_sem,n1,n2,n3,n4,gz2,hz2] at gz3a
    all_goals
    (simp_all)
   ·try simp only [go_sem,n1,n2,n3,n4,gz2,hz2] at gz3a
    all_goals
    try simp only [go_sem,n1,n2,n3,n4,gz2,hz2,gz3a] at gz3b
    all_goals
    obtain ⟨z4,h⟩:=AF h
    obtain rfl:=AB h
    refine ⟨0,fun L hL => ?_⟩
    simp only [go_sem,nE,fz1,gz2,hz2,fz2,gz3a,gz3b]
 ·try simp only [go_sem,n1,n2,n3,n4] at gz2
  all_goals
  obtain ⟨z3,h⟩:=AF h
  obtain ⟨z4,h⟩:=AF h
  obtain rfl:=AB h
  refine ⟨0,fun L hL => ?_⟩
  simp only [go_sem,nE,fz1,gz2]
def cJ:IR:=.seq (.test false [ PM 4 2,PM 5 0,PO 6 (.len false (.s 0)),PO 7 (.bin false .lss (.s 2) (.s 0))] (.s 0) (.skip) (.exit 0)) (.seq (.block 1 (.anyo 20 [ SO 0 10 (.mov (.v 0)),SO 1 11 (.mov (.v 2)),SO 2 12 (.ixAddr 5 (.s 0) (.s 1)),SO 3 13 (.callp 66 [(.s 2)]),SO 4 14 (.un .not (.s 3)),SO 5 15 (.mov (.s 4)),⟨.slot 6,16,(some ((.s 5),false)),.mov (.v 2)⟩,⟨.slot 7,17,(some ((.s 5),false)),.bin false .gtr (.s 6) (I6 0)⟩,⟨.slot 8,18,(some ((.s 5),false)),.mov (.s 7)⟩,⟨.slot 9,19,(some ((.s 8),true)),.mov (.v 0)⟩,⟨.slot 10,20,(some ((.s 8),true)),
 .mov (.v 2)⟩,⟨.slot 11,21,(some ((.s 8),true)),.bin false .sub (.s 10) (I6 1)⟩,⟨.slot 12,22,(some ((.s 8),true)),.ixAddr 5 (.s 9) (.s 11)⟩,⟨.slot 13,23,(some ((.s 8),true)),.mov (.v 0)⟩,⟨.slot 14,24,(some ((.s 8),true)),.mov (.v 2)⟩,⟨.slot 15,25,(some ((.s 8),true)),.ixAddr 5 (.s 13) (.s 14)⟩,⟨.slot 16,26,(some ((.s 8),true)),.call 86 [(.s 12),(.s 15)]⟩,⟨.slot 17,27,(some ((.s 8),true)),.un .not (.s 16)⟩,⟨.slot 18,28,(some ((.s 5),false)),.pick (.s 8) (.s 17) (.c (.bool false))⟩,SO 19 29 (.pick (.s 5) (.c (.bool true)) (.s 18))] [] (.cond (.s 19) (.seq
 (.region false [ VO 1 2 (.mov (.c (.bool false)))]) (.ret)) (.skip)))) (.region false [ PM 8 2,PO 9 (.bin false .add (.s 0) (I6 1)),VS 2 3 0]))
def VL:List Bool:=[true,false,true]
def VK:List Bool:=[true,false,false]
def VJ:List Bool:=[false,true,false]
def ACD:List Nat:=[0,2,3]
def wt:CI:=⟨1,3,.seq (.region false [ VO 1 2 (.mov (.c (.bool false)))]) (.seq (.seq (.region false [ VO 2 3 (.mov (I6 0))]) (.block 0 (.loop VL VK VJ cJ))) (.seq (.region false [ PM 30 0,PO 31 (.len false (.s 0)),PO 32 (.bin false .leq (.s 0) (I6 100)),VS 1 2 0]) (.ret))),[.t 1]⟩
noncomputable def vc:List (Nat × Ax):=[(66,fU),(86,vM)]
theorem sW:AR vc 66 = some fU:=rfl
theorem sV:AR vc 86 = some vM:=rfl
noncomputable def Yt:Ax:=Di vc wt [.bor]
theorem AAP:AU Tryz.prog 37 Yt:=AM _ rfl (AG AFb (AG s_7 AP)) (by kernel_rfl:Af Tryz.prog 37 wt ACD = true)
theorem M_23:Yt.modes = [.bor]:=rfl
theorem AJy:Yt.flat = true:=rfl
attribute [go_sem] M_23 AJy sW sV
def Ws (list:List AA):Int → St
 | i => ⟨[.sl 5 (List.map AE list),.any,.int .i64 i],[],[],true⟩
def WO (list:List AA):(Unit ⊕ Bool) → EB
 | .inl y => (.exit 0,⟨[.sl 5 (List.map AE list),.any,.any],[],[],true⟩)
 | .inr y => (.ret,⟨[.any,.bool y,.any],[],[],true⟩)
attribute [local go_sem] wt Ws WO cJ VL VK VJ in
theorem SI {list:List AA} {sgm_:Int} {rho_:Unit ⊕ Bool} (h:AL (FO list) sgm_ = some rho_):∃ L0,∀ L,L0 ≤ L → Bk (Az (AR vc) L cJ) VL VK VJ L (Ws list sgm_) = WO list rho_:=by
 refine As (E:=Ws list) (R:=WO list) (fun y => by first | (intro c; cases c) | (rcases y with y | y <;> (intro c; cases c)) | (rcases y with y | y | y <;> (intro c; cases c))) ?_ h
 clear h
 intro i o_ h
 dsimp only [FO] at h
 rcases AD h with ⟨z1,h⟩ | ⟨z1,h⟩
 ·try simp only [go_sem,n1,n2,n3,n4] at z1
  all_goals
  obtain ⟨z2,h⟩:=AF h
  have lz2:=Au z2
  have xz2:=AK AE list lz2
  try simp only [go_sem] at lz2
  try simp only [go_sem] at xz2
  try simp only [go_sem,n1,n2,n3,n4,z1] at z2
  all_goals
  obtain ⟨y_3,z3,h⟩:=AC h
  have fz3:=ze z3
  try simp only [go_sem,z1,z2] at fz3
  obtain ⟨z4,h⟩:=AF h
  rcases Ab z4 with ⟨gz4,z4⟩ | gz4
  ·try simp only [go_sem,n1,n2,n3,n4,z1,z2] at gz4
   all_goals
   have lz4:=Au z4
   have xz4:=AK AE list lz4
   try simp only [go_sem] at lz4
   try simp only [go_sem] at xz4
   try simp only [go_sem,n1,n2,n3,n4,z1,z2,gz4] at z4
   all_goals
   obtain ⟨z5,h⟩:=AF h
   rcases Ab z5 with ⟨gz5,z5⟩ | gz5
   ·try simp only [go_sem,n1,n2,n3,n4,z1,z2,gz4,z4] at gz5
    all_goals
    obtain ⟨y_5,hz5⟩:=Option.isSome_iff_exists.1 z5
    have fz5:=yX hz5
    try simp only [go_sem,n1,n2,n3,n4,z1,z2,gz4,z4,gz5] at hz5
    all_goals
    try simp only [go_sem,z1,z2,gz4,z4,gz5] at fz5
    rcases AD h with ⟨z6,h⟩ | ⟨z6,h⟩
    all_goals
    try simp only [go_sem,n1,n2,n3,n4,z1,z2,gz4,z4,gz5,hz5] at z6
    all_goals
    obtain rfl:=AB h
    refine ⟨0,fun L hL => ?_⟩
    simp only [go_sem,z1,z2,lz2,xz2,fz3,gz4,z4,lz4,xz4,gz5,hz5,fz5,z6]
   ·rcases DA gz5 with gz5a | ⟨gz5a,gz5b⟩
    ·try simp only [go_sem,n1,n2,n3,n4,z1,z2,gz4,z4] at gz5a
     all_goals
     (simp_all)
    ·have gz5an:=Ha gz5a
     have gz5ann:=DT gz5an
     try simp only [go_sem,n1,n2,n3,n4,z1,z2,gz4,z4] at gz5ann
     all_goals
     try simp only [go_sem,n1,n2,n3,n4,z1,z2,gz4,z4,gz5ann] at gz5b
     all_goals
     rcases AD h with ⟨z6,h⟩ | ⟨z6,h⟩
     ·try simp only [go_sem,n1,n2,n3,n4,z1,z2,gz4,z4,gz5ann,gz5b] at z6
      all_goals
      (simp_all)
     ·try simp only [go_sem,n1,n2,n3,n4,z1,z2,gz4,z4,gz5ann,gz5b] at z6
      all_goals
      obtain rfl:=AB h
      refine ⟨0,fun L hL => ?_⟩
      simp only [go_sem,z1,z2,lz2,xz2,fz3,gz4,z4,lz4,xz4,gz5ann,gz5b,z6]
  ·rcases DA gz4 with gz4a | ⟨gz4a,gz4b⟩
   ·have gz4an:=DT gz4a
    have gz4ann:=Ha gz4an
    try simp only [go_sem,n1,n2,n3,n4,z1,z2] at gz4ann
    all_goals
    obtain ⟨z5,h⟩:=AF h
    rcases AD h with ⟨z6,h⟩ | ⟨z6,h⟩
    ·try simp only [go_sem,n1,n2,n3,n4,z1,z2,gz4ann] at z6
     all_goals
     obtain rfl:=AB h
     refine ⟨0,fun L hL => ?_⟩
     simp only [go_sem,z1,z2,lz2,xz2,fz3,gz4ann,z6]
    ·try simp only [go_sem,n1,n2,n3,n4,z1,z2,gz4ann] at z6
     all_goals
     (simp_all)
   ·have gz4an:=Ha gz4a
    have gz4ann:=DT gz4an
    try simp only [go_sem,n1,n2,n3,n4,z1,z2] at gz4ann
    all_goals
    try simp only [go_sem,n1,n2,n3,n4,z1,z2,gz4ann] at gz4b
    all_goals
    obtain ⟨z5,h⟩:=AF h
    rcases AD h with ⟨z6,h⟩ | ⟨z6,h⟩
    ·try simp only [go_sem,n1,n2,n3,n4,z1,z2,gz4ann,gz4b] at z6
     all_goals
     (simp_all)
    ·try simp only [go_sem,n1,n2,n3,n4,z1,z2,gz4ann,gz4b] at z6
     all_goals
     obtain rfl:=AB h
     refine ⟨0,fun L hL => ?_⟩
     simp only [go_sem,z1,z2,lz2,xz2,fz3,gz4ann,gz4b,z6]
 ·try simp only [go_sem,n1,n2,n3,n4] at z1
  all_goals
  obtain rfl:=AB h
  refine ⟨0,fun L hL => ?_⟩
  simp only [go_sem,z1]
attribute [local go_sem] Ws WO VL VK VJ wt in
theorem ur {list:List AA} {y_:Bool} (h:Gl list = some y_):Yt.F [.sl 5 (List.map AE list)] = ⟨true,.bool y_,[.any]⟩:=by
 refine Ay rfl ?_
 dsimp only [Gl] at h
 obtain ⟨y_7,z7,h⟩:=AC h
 obtain ⟨Lz7,ez7⟩:=SI z7
 rcases y_7 with y_7a | y_7b
 all_goals
 dsimp only at h
 obtain rfl:=AB h
 refine ⟨Lz7,fun L hL => ?_⟩
 have ez7:=ez7 L (by omega)
 try simp only [go_sem] at ez7
 simp only [go_sem,ez7]
def ACR:List Nat:=[0,2,3,4]
def eP:CI:=⟨1,4,.seq (.region false [ VO 1 2 (.newnil 5)]) (.seq (.region false [ PM 5 0,PO 6 (.call 65 [(.s 0)]),VS 2 3 0]) (.seq (.test false [ PM 7 2,PO 8 (.len false (.s 0)),PO 9 (.bin false .gtr (.s 0) (I6 0)),PO 10 (.mov (.s 0)),⟨.push,11,(some ((.s 0),true)),.mov (.v 0)⟩,⟨.push,12,(some ((.s 1),true)),.callw 29 [(.s 0),(I6 2)]⟩,PO 13 (.pick (.s 2) (.s 0) (.c (.bool false)))] (.s 0) (.seq (.region false [ PM 14 2,PM 15 0,PM 16 2,PO 17 (.len false (.s 0)),PO 18 (.call 31 [(.s 2),(.s 0)]),PO 19 (.ixAddr 5 (.s 4) (.s 0)),PO 20 (.load true 5 (.s 0)),VO 3 4
 (.alloc (.agg [.int .i64 (0),.str [],.str [],.int .i64 (0),.bool false])),⟨.no,0,none,.store 5 (.v 3) (.s 0)⟩]) (.seq (.anyo 6 [ SO 0 21 (.fldAddr 0 (.v 3)),SO 1 22 (.load false 1 (.s 0)),SO 2 23 (.mov (.v 0)),SO 3 24 (.call 31 [(.s 2),(I6 120)]),SO 4 25 (.bin false .add (.s 1) (.s 3)),SO 5 26 (.fldAddr 0 (.v 3)),⟨.no,0,none,.store 1 (.s 5) (.s 4)⟩] [[2,0,1,3,4,5,6],[2,0,3,1,4,5,6],[2,3,0,1,4,5,6]] .skip) (.test false [ PO 27 (.call 66 [(.v 3)]),PO 28 (.mov (.s 0)),⟨.push,29,(some ((.s 0),true)),.mov (.v 2)⟩,⟨.push,30,(some ((.s 1),true)),.call
 67 [(.s 0),(.v 3)]⟩,⟨.push,31,(some ((.s 2),true)),.bin false .lss (.s 0) (I6 0)⟩,PO 32 (.pick (.s 3) (.s 0) (.c (.bool false))),PO 33 (.mov (.s 0)),⟨.push,34,(some ((.s 0),true)),.mov (.v 2)⟩,⟨.push,35,(some ((.s 1),true)),.call 37 [(.s 0)]⟩,PO 36 (.pick (.s 2) (.s 0) (.c (.bool false))),PO 37 (.mov (.s 0)),⟨.push,38,(some ((.s 0),true)),.mov (.v 2)⟩,⟨.push,39,(some ((.s 1),true)),.len false (.s 0)⟩,⟨.push,40,(some ((.s 2),true)),.bin false .lss (.s 0) (I6 100)⟩,PO 41 (.pick (.s 3) (.s 0) (.c (.bool false)))] (.s 0) (.seq (.region false [ PM 42 2,PO 43
 (.load true 5 (.v 3)),PO 44 (.call 68 [(.s 1),(.s 0)]),VS 1 2 0]) (.ret)) (.skip)))) (.skip)) (.seq (.region false [ PM 45 2,VS 1 2 0]) (.ret)))),[.t 1]⟩
noncomputable def dM:List (Nat × Ax):=[(65,pC),(29,PH),(31,LH),(66,fU),(67,zL),(37,Yt),(68,zK)]
theorem sQ:AR dM 65 = some pC:=rfl
theorem sU:AR dM 29 = some PH:=rfl
theorem sS:AR dM 31 = some LH:=rfl
theorem sP:AR dM 66 = some fU:=rfl
theorem sO:AR dM 67 = some zL:=rfl
theorem sR:AR dM 37 = some Yt:=rfl
theorem sN:AR dM 68 = some zK:=rfl
noncomputable def fT:Ax:=OE dM eP [.io]
theorem AFa:AU Tryz.prog 27 fT:=Bb _ (AG s_15 (AG kV (AG au (AG AFb (AG s_8 (AG AAP (AG s_9 AP))))))) (by kernel_rfl:Af Tryz.prog 27 eP ACR = true)
theorem M_24:fT.modes = [.io]:=rfl
theorem AJx:fT.flat = false:=rfl
attribute [go_sem] M_24 AJx sQ sU sS sP sO sR sN
theorem zd {s_:AQ} {y_:(List AA) × AQ} (h:Gy s_ = some y_):fT.F [.mem 3 [Ah s_] 0] = ⟨true,.fresh 5 (List.map AE y_.1),[.mem 3 [Ah y_.2] 0]⟩:=by
 refine FC ?_
 dsimp only [Gy] at h
 obtain ⟨y_1,z1,h⟩:=AC h
 have fz1:=AIc z1
 try simp only [go_sem] at fz1
 rcases AD h with ⟨z2,h⟩ | ⟨z2,h⟩
 ·try simp only [go_sem,n1,n2,n3,n4] at z2
  all_goals
  obtain ⟨y_3,z3,h⟩:=AC h
  have fz3:=Jy z3
  try simp only [go_sem,z2] at fz3
  rcases AD h with ⟨z4,h⟩ | ⟨z4,h⟩
  ·try simp only [go_sem,n1,n2,n3,n4,z2] at z4
   all_goals
   obtain ⟨y_5,z5,h⟩:=AC h
   have fz5:=Ed z5
   try simp only [go_sem,z2,z4] at fz5
   obtain ⟨z6,h⟩:=AF h
   have lz6:=Au z6
   have xz6:=AK AE y_1.1 lz6
   try simp only [go_sem] at lz6
   try simp only [go_sem] at xz6
   try simp only [go_sem,n1,n2,n3,n4,z2,z4] at z6
   all_goals
   obtain ⟨y_7,z7,h⟩:=AC h
   have fz7:=Ed z7
   try simp only [go_sem,z2,z4,z6] at fz7
   obtain ⟨y_8,z8,h⟩:=AC h
   have fz8:=ze z8
   try simp only [go_sem,z2,z4,z6] at fz8
   obtain ⟨z9,h⟩:=AF h
   rcases Ab z9 with ⟨gz9,z9⟩ | gz9
   ·try simp only [go_sem,n1,n2,n3,n4,z2,z4,z6] at gz9
    all_goals
    obtain ⟨y_9,hz9⟩:=Option.isSome_iff_exists.1 z9
    have fz9:=AHl hz9
    try simp only [go_sem,n1,n2,n3,n4,z2,z4,z6,gz9] at hz9
    all_goals
    try simp only [go_sem,z2,z4,z6,gz9] at fz9
    obtain ⟨z10,h⟩:=AF h
    rcases Ab z10 with ⟨gz10,z10⟩ | gz10
    ·try simp only [go_sem,n1,n2,n3,n4,z2,z4,z6,gz9,hz9] at gz10
     all_goals
     obtain ⟨y_10,hz10⟩:=Option.isSome_iff_exists.1 z10
     have fz10:=ur hz10
     try simp only [go_sem,n1,n2,n3,n4,z2,z4,z6,gz9,hz9,gz10] at hz10
     all_goals
     try simp only [go_sem,z2,z4,z6,gz9,hz9,gz10] at fz10
     rcases AD h with ⟨z11,h⟩ | ⟨z11,h⟩
     ·try simp only [go_sem,n1,n2,n3,n4,z2,z4,z6,gz9,hz9,gz10,hz10] at z11
      all_goals
      obtain ⟨y_12,z12,h⟩:=AC h
      have fz12:=AHd z12
      try simp only [go_sem,z2,z4,z6,gz9,hz9,gz10,hz10,z11] at fz12
      obtain rfl:=AB h
      refine ⟨0,fun L hL => ?_⟩
      simp only [go_sem,eP,fz1,z2,fz3,z4,fz5,z6,lz6,xz6,fz7,fz8,gz9,hz9,fz9,gz10,hz10,fz10,z11,fz12]
     ·try simp only [go_sem,n1,n2,n3,n4,z2,z4,z6,gz9,hz9,gz10,hz10] at z11
      all_goals
      obtain rfl:=AB h
      refine ⟨0,fun L hL => ?_⟩
      simp only [go_sem,eP,fz1,z2,fz3,z4,fz5,z6,lz6,xz6,fz7,fz8,gz9,hz9,fz9,gz10,hz10,fz10,z11]
    ·rcases DA gz10 with gz10a | ⟨gz10a,gz10b⟩
     ·try simp only [go_sem,n1,n2,n3,n4,z2,z4,z6,gz9,hz9] at gz10a
      all_goals
      (simp_all)
     ·try simp only [go_sem,n1,n2,n3,n4,z2,z4,z6,gz9,hz9] at gz10a
      all_goals
      try simp only [go_sem,n1,n2,n3,n4,z2,z4,z6,gz9,hz9,gz10a] at gz10b
      all_goals
      rcases AD h with ⟨z11,h⟩ | ⟨z11,h⟩
      ·try simp only [go_sem,n1,n2,n3,n4,z2,z4,z6,gz9,hz9,gz10a,gz10b] at z11
       all_goals
       (simp_all)
      ·try simp only [go_sem,n1,n2,n3,n4,z2,z4,z6,gz9,hz9,gz10a,gz10b] at z11
       all_goals
       obtain rfl:=AB h
       refine ⟨0,fun L hL => ?_⟩
       simp only [go_sem,eP,fz1,z2,fz3,z4,fz5,z6,lz6,xz6,fz7,fz8,gz9,hz9,fz9,gz10a,gz10b,z11]
   ·try simp only [go_sem,n1,n2,n3,n4,z2,z4,z6] at gz9
    all_goals
    obtain ⟨z10,h⟩:=AF h
    rcases AD h with ⟨z11,h⟩ | ⟨z11,h⟩
    ·try simp only [go_sem,n1,n2,n3,n4,z2,z4,z6,gz9] at z11
     all_goals
     (simp_all)
    ·try simp only [go_sem,n1,n2,n3,n4,z2,z4,z6,gz9] at z11
     all_goals
     obtain rfl:=AB h
     refine ⟨0,fun L hL => ?_⟩
     simp only [go_sem,eP,fz1,z2,fz3,z4,fz5,z6,lz6,xz6,fz7,fz8,gz9,z11]
  ·try simp only [go_sem,n1,n2,n3,n4,z2] at z4
   all_goals
   obtain rfl:=AB h
   refine ⟨0,fun L hL => ?_⟩
   simp only [go_sem,eP,fz1,z2,fz3,z4]
 ·try simp only [go_sem,n1,n2,n3,n4] at z2
  all_goals
  obtain rfl:=AB h
  refine ⟨0,fun L hL => ?_⟩
  simp only [go_sem,eP,fz1,z2]
def xJ:List Nat:=[0]
def tP:CI:=⟨0,1,.seq (.region false [ VO 0 0 (.newnil 1)]) (.seq (.region false [ PO 1 (.mkSl 1 (.str []) 6 [(0,(.c (.str [98,101,116,97,45,108,121,114]))),(1,(.c (.str [100,101,108,45,99,101,112]))),(2,(.c (.str [109,105,114,97]))),(3,(.c (.str [114,45,99,114,98]))),(4,(.c (.str [114,114,45,108,121,114]))),(5,(.c (.str [115,115,45,99,121,103])))]),VS 0 0 0]) (.ret)),[.t 0]⟩
noncomputable def t_25:List (Nat × Ax):=[]
noncomputable def oz:Ax:=Di t_25 tP []
theorem s_25:AU Tryz.prog 142 oz:=AM _ rfl AP (by kernel_rfl:Af Tryz.prog 142 tP xJ = true)
theorem M_25:oz.modes = []:=rfl
theorem AJw:oz.flat = true:=rfl
attribute [go_sem] M_25 AJw
theorem AIZ  {y_:(List (List UInt8))} (h:JV = some y_):oz.F [] = ⟨true,.fresh 1 (List.map AV.str y_),[]⟩:=by
 refine Ay (by simp only [Fo,Fu,GQ,List.all_cons,List.all_nil,Bool.and_self,Bx (f:=AV.str) (fun _ => rfl)]) ?_
 dsimp only [JV] at h
 obtain rfl:=AB h
 refine ⟨0,fun L hL => ?_⟩
 simp only [go_sem,tP]
def xS:List Nat:=[0,1,4]
def tR:CI:=⟨2,3,.seq (.region false [ VO 2 4 (.mov (I6 0))]) (.seq (.test false [ PM 5 0,PM 6 1,PO 7 (.bin false .lss (.s 1) (.s 0))] (.s 0) (.seq (.region false [ PM 8 0,VS 2 4 0]) (.ret)) (.skip)) (.seq (.region false [ PM 9 1,VS 2 4 0]) (.ret))),[.t 2]⟩
noncomputable def t_26:List (Nat × Ax):=[]
noncomputable def fS:Ax:=Di t_26 tR [.bor,.bor]
theorem AFZ:AU Tryz.prog 128 fS:=AM _ rfl AP (by kernel_rfl:Af Tryz.prog 128 tR xS = true)
theorem M_26:fS.modes = [.bor,.bor]:=rfl
theorem AJv:fS.flat = true:=rfl
attribute [go_sem] M_26 AJv
theorem fl {a:Int} {b:Int} {y_:Int} (h:Cv a b = some y_):fS.F [.int .i64 a,.int .i64 b] = ⟨true,.int .i64 y_,[.any,.any]⟩:=by
 refine Ay rfl ?_
 dsimp only [Cv] at h
 rcases AD h with ⟨z1,h⟩ | ⟨z1,h⟩
 all_goals
 try simp only [go_sem,n1,n2,n3,n4] at z1
 all_goals
 obtain rfl:=AB h
 refine ⟨0,fun L hL => ?_⟩
 simp only [go_sem,tR,z1]
def xI:List Nat:=[0,1,4,5]
def Zg:CI:=⟨2,4,.seq (.region false [ VO 2 4 (.alloc (.agg [.str [],.int .i64 (0),.int .i64 (0),.int .i64 (0),.int .i64 (0)]))]) (.seq (.region false [ PM 6 1,PM 7 0,PO 8 (.call 31 [(.s 0),(I6 86400)]),PO 9 (.build [.str [],.int .i64 (0),.int .i64 (0),.int .i64 (0),.int .i64 (0)] [(0,1,(.s 2)),(1,1,(.s 0))]),VO 3 5 (.alloc (.agg [.str [],.int .i64 (0),.int .i64 (0),.int .i64 (0),.int .i64 (0)])),⟨.no,0,none,.store 5 (.v 3) (.s 0)⟩]) (.seq (.test false [ PM 10 0,PO 11 (.call 29 [(.s 0),(I6 3)])] (.s 0) (.region false [ PM 12 0,PO 13 (.mkSl 1 (.int .i64 (0))
 5 [(0,(I6 0)),(1,(I6 10)),(2,(I6 100)),(3,(I6 86300)),(4,(I6 86399))]),PO 14 (.call 30 [(.s 1),(.s 0)]),PO 15 (.fldAddr 1 (.v 3)),⟨.no,0,none,.store 1 (.s 0) (.s 1)⟩]) (.skip)) (.seq (.region false [ PM 16 0,PO 17 (.call 31 [(.s 0),(I6 648001)]),PO 18 (.bin false .sub (.s 0) (I6 324000)),PO 19 (.fldAddr 2 (.v 3)),⟨.no,0,none,.store 1 (.s 0) (.s 1)⟩]) (.seq (.test false [ PM 20 0,PO 21 (.call 29 [(.s 0),(I6 3)])] (.s 0) (.region false [ PM 22 0,PO 23 (.call 31 [(.s 0),(I6 9)]),PO 24 (.bin false .sub (.s 0) (I6 4)),PO 25 (.bin false .mul (I6 3600) (.s 0)),PO 26
 (.fldAddr 2 (.v 3)),⟨.no,0,none,.store 1 (.s 0) (.s 1)⟩]) (.skip)) (.seq (.region false [ PM 27 0,PO 28 (.call 165 [(.s 0)]),PO 29 (.fldAddr 3 (.v 3)),⟨.no,0,none,.store 1 (.s 0) (.s 1)⟩]) (.seq (.anyo 8 [ SO 0 30 (.fldAddr 3 (.v 3)),SO 1 31 (.load false 1 (.s 0)),SO 2 32 (.mov (.v 0)),SO 3 33 (.call 31 [(.s 2),(I6 40)]),SO 4 34 (.bin false .mul (I6 100) (.s 3)),SO 5 35 (.bin false .add (.s 1) (.s 4)),SO 6 36 (.callp 128 [(I6 20000),(.s 5)]),SO 7 37 (.fldAddr 4 (.v 3)),⟨.no,0,none,.store 1 (.s 7) (.s 6)⟩] [[2,0,1,3,4,5,6,7,8],[2,0,3,1,4,5,6,7,8],[2,3,
 0,1,4,5,6,7,8]] .skip) (.seq (.region false [ PO 38 (.load true 5 (.v 3)),⟨.no,0,none,.store 5 (.v 2) (.s 0)⟩]) (.ret)))))))),[.cell true 5 2]⟩
noncomputable def kL:List (Nat × Ax):=[(31,LH),(29,PH),(30,Ld),(165,fY),(128,fS)]
theorem sK:AR kL 31 = some LH:=rfl
theorem sM:AR kL 29 = some PH:=rfl
theorem sL:AR kL 30 = some Ld:=rfl
theorem lc:AR kL 165 = some fY:=rfl
theorem ld:AR kL 128 = some fS:=rfl
noncomputable def oy:Ax:=OE kL Zg [.io,.bor]
theorem s_27:AU Tryz.prog 143 oy:=Bb _ (AG au (AG kV (AG da (AG AFr (AG AFZ AP))))) (by kernel_rfl:Af Tryz.prog 143 Zg xI = true)
theorem M_27:oy.modes = [.io,.bor]:=rfl
theorem AJu:oy.flat = false:=rfl
attribute [go_sem] M_27 AJu sK sM sL lc ld
theorem AIY {s_:AQ} {name:List UInt8} {y_:Star × AQ} (h:Jd s_ name = some y_):oy.F [.mem 3 [Ah s_] 0,.str name] = ⟨true,Al y_.1,[.mem 3 [Ah y_.2] 0,.any]⟩:=by
 refine FC ?_
 dsimp only [Jd] at h
 obtain ⟨y_1,z1,h⟩:=AC h
 have fz1:=Ed z1
 try simp only [go_sem] at fz1
 obtain ⟨y_2,z2,h⟩:=AC h
 have fz2:=Jy z2
 try simp only [go_sem] at fz2
 rcases AD h with ⟨z3,h⟩ | ⟨z3,h⟩
 ·try simp only [go_sem,n1,n2,n3,n4] at z3
  all_goals
  obtain ⟨y_4,z4,h⟩:=AC h
  have fz4:=MX z4
  try simp only [go_sem,z3] at fz4
  obtain ⟨y_5,z5,h⟩:=AC h
  have fz5:=Ed z5
  try simp only [go_sem,z3] at fz5
  obtain ⟨y_6,z6,h⟩:=AC h
  have fz6:=Jy z6
  try simp only [go_sem,z3] at fz6
  rcases AD h with ⟨z7,h⟩ | ⟨z7,h⟩
  ·try simp only [go_sem,n1,n2,n3,n4,z3] at z7
   all_goals
   obtain ⟨y_8,z8,h⟩:=AC h
   have fz8:=Ed z8
   try simp only [go_sem,z3,z7] at fz8
   obtain ⟨y_9,z9,h⟩:=AC h
   have fz9:=fo z9
   try simp only [go_sem,z3,z7] at fz9
   obtain ⟨y_10,z10,h⟩:=AC h
   have fz10:=Ed z10
   try simp only [go_sem,z3,z7] at fz10
   obtain ⟨y_11,z11,h⟩:=AC h
   have fz11:=fl z11
   try simp only [go_sem,z3,z7] at fz11
   obtain rfl:=AB h
   refine ⟨0,fun L hL => ?_⟩
   simp only [go_sem,Zg,fz1,fz2,z3,fz4,fz5,fz6,z7,fz8,fz9,fz10,fz11]
  ·try simp only [go_sem,n1,n2,n3,n4,z3] at z7
   all_goals
   obtain ⟨y_12,z12,h⟩:=AC h
   have fz12:=fo z12
   try simp only [go_sem,z3,z7] at fz12
   obtain ⟨y_13,z13,h⟩:=AC h
   have fz13:=Ed z13
   try simp only [go_sem,z3,z7] at fz13
   obtain ⟨y_14,z14,h⟩:=AC h
   have fz14:=fl z14
   try simp only [go_sem,z3,z7] at fz14
   obtain rfl:=AB h
   refine ⟨0,fun L hL => ?_⟩
   simp only [go_sem,Zg,fz1,fz2,z3,fz4,fz5,fz6,z7,fz12,fz13,fz14]
 ·try simp only [go_sem,n1,n2,n3,n4] at z3
  all_goals
  obtain ⟨y_15,z15,h⟩:=AC h
  have fz15:=Ed z15
  try simp only [go_sem,z3] at fz15
  obtain ⟨y_16,z16,h⟩:=AC h
  have fz16:=Jy z16
  try simp only [go_sem,z3] at fz16
  rcases AD h with ⟨z17,h⟩ | ⟨z17,h⟩
  ·try simp only [go_sem,n1,n2,n3,n4,z3] at z17
   all_goals
   obtain ⟨y_18,z18,h⟩:=AC h
   have fz18:=Ed z18
   try simp only [go_sem,z3,z17] at fz18
   obtain ⟨y_19,z19,h⟩:=AC h
   have fz19:=fo z19
   try simp only [go_sem,z3,z17] at fz19
   obtain ⟨y_20,z20,h⟩:=AC h
   have fz20:=Ed z20
   try simp only [go_sem,z3,z17] at fz20
   obtain ⟨y_21,z21,h⟩:=AC h
   have fz21:=fl z21
   try simp only [go_sem,z3,z17] at fz21
   obtain rfl:=AB h
   refine ⟨0,fun L hL => ?_⟩
   simp only [go_sem,Zg,fz1,fz2,z3,fz15,fz16,z17,fz18,fz19,fz20,fz21]
  ·try simp only [go_sem,n1,n2,n3,n4,z3] at z17
   all_goals
   obtain ⟨y_22,z22,h⟩:=AC h
   have fz22:=fo z22
   try simp only [go_sem,z3,z17] at fz22
   obtain ⟨y_23,z23,h⟩:=AC h
   have fz23:=Ed z23
   try simp only [go_sem,z3,z17] at fz23
   obtain ⟨y_24,z24,h⟩:=AC h
   have fz24:=fl z24
   try simp only [go_sem,z3,z17] at fz24
   obtain rfl:=AB h
   refine ⟨0,fun L hL => ?_⟩
   simp only [go_sem,Zg,fz1,fz2,z3,fz15,fz16,z17,fz22,fz23,fz24]
def Xl:IR:=.seq (.test false [ PM 8 4,PM 9 2,PO 10 (.len false (.s 0)),PO 11 (.bin false .lss (.s 2) (.s 0))] (.s 0) (.skip) (.exit 0)) (.seq (.block 1 (.test false [ PM 14 0,PO 15 (.call 29 [(.s 0),(I6 2)])] (.s 0) (.region false [ PM 16 3,PM 17 0,PM 18 2,PM 19 4,PO 20 (.ixAddr 1 (.s 1) (.s 0)),PO 21 (.load false 1 (.s 0)),PO 22 (.call 143 [(.s 4),(.s 0)]),PO 23 (.mkSl 5 (.agg [.str [],.int .i64 (0),.int .i64 (0),.int .i64 (0),.int .i64 (0)]) 1 [(0,(.s 0))]),PO 24 (.app 5 48 (.agg [.str [],.int .i64 (0),.int .i64 (0),.int .i64 (0),.int .i64 (0)]) (.s 7) (.s
 0)),VS 3 4 0]) (.skip))) (.region false [ PM 12 4,PO 13 (.bin false .add (.s 0) (I6 1)),VS 4 5 0]))
def Qc:List Bool:=[true,false,true,true,true]
def Qb:List Bool:=[true,false,false,true,false]
def Qa:List Bool:=[true,true,false,false,false]
def xl:List Nat:=[0,2,3,4,5]
def jg:CI:=⟨1,5,.seq (.region false [ VO 1 2 (.newnil 5)]) (.seq (.region false [ PO 6 (.call 142 []),VS 2 3 0]) (.seq (.region false [ PO 7 (.mkSl 5 (.agg [.str [],.int .i64 (0),.int .i64 (0),.int .i64 (0),.int .i64 (0)]) 0 []),VS 3 4 0]) (.seq (.seq (.region false [ VO 4 5 (.mov (I6 0))]) (.block 0 (.loop Qc Qb Qa Xl))) (.seq (.region false [ PM 25 3,VS 1 2 0]) (.ret))))),[.t 1]⟩
noncomputable def pf:List (Nat × Ax):=[(142,oz),(29,PH),(143,oy)]
theorem la:AR pf 142 = some oz:=rfl
theorem sJ:AR pf 29 = some PH:=rfl
theorem lZ:AR pf 143 = some oy:=rfl
noncomputable def ox:Ax:=OE pf jg [.io]
theorem s_28:AU Tryz.prog 113 ox:=Bb _ (AG s_25 (AG kV (AG s_27 AP))) (by kernel_rfl:Af Tryz.prog 113 jg xl = true)
theorem M_28:ox.modes = [.io]:=rfl
theorem AJt:ox.flat = false:=rfl
attribute [go_sem] M_28 AJt la sJ lZ
def Wr (names:List (List UInt8)):(AQ × (List Star) × Int) → St
 | (s_,out,k) => ⟨[.ref 31 0 0,.any,.own 3200032,.own 3200064,.int .i64 k],[],[(31,⟨3,[Ah s_]⟩),(3200032,⟨1,List.map AV.str names⟩),(3200064,⟨5,List.map Al out⟩)],true⟩
def WN (names:List (List UInt8)) (y:AQ × (List Star)):EB:=(.exit 0,⟨[.ref 31 0 0,.any,.any,.own 3200032,.any],[],[(31,⟨3,[Ah y.1]⟩),(3200032,⟨5,List.map Al y.2⟩)],true⟩)
attribute [local go_sem] jg Wr WN Xl Qc Qb Qa in
theorem Oa {names:List (List UInt8)} {sgm_:AQ × (List Star) × Int} {rho_:AQ × (List Star)} (h:AL (Et names) sgm_ = some rho_):∃ L0,∀ L,L0 ≤ L → Bk (Az (AR pf) L Xl) Qc Qb Qa L (Wr names sgm_) = WN names rho_:=by
 refine As (E:=Wr names) (R:=WN names) (fun y => by first | (intro c; cases c) | (rcases y with y | y <;> (intro c; cases c)) | (rcases y with y | y | y <;> (intro c; cases c))) ?_ h
 clear h
 rintro ⟨s_,out,k⟩ o_ h
 dsimp only [Et] at h
 rcases AD h with ⟨z2,h⟩ | ⟨z2,h⟩
 ·try simp only [go_sem,n1,n2,n3,n4] at z2
  all_goals
  obtain ⟨y_3,z3,h⟩:=AC h
  have fz3:=Jy z3
  try simp only [go_sem,z2] at fz3
  rcases AD h with ⟨z4,h⟩ | ⟨z4,h⟩
  ·try simp only [go_sem,n1,n2,n3,n4,z2] at z4
   all_goals
   obtain ⟨z5,h⟩:=AF h
   have lz5:=Au z5
   have xz5:=AK AV.str names lz5
   try simp only [go_sem] at lz5
   try simp only [go_sem] at xz5
   try simp only [go_sem,n1,n2,n3,n4,z2,z4] at z5
   all_goals
   obtain ⟨y_6,z6,h⟩:=AC h
   have fz6:=AIY z6
   try simp only [go_sem,z2,z4,z5] at fz6
   obtain ⟨z7,h⟩:=AF h
   try simp only [go_sem,n1,n2,n3,n4,z2,z4,z5] at z7
   all_goals
   obtain rfl:=AB h
   refine ⟨0,fun L hL => ?_⟩
   simp only [go_sem,z2,fz3,z4,z5,lz5,xz5,fz6,z7]
  ·try simp only [go_sem,n1,n2,n3,n4,z2] at z4
   all_goals
   obtain rfl:=AB h
   refine ⟨0,fun L hL => ?_⟩
   simp only [go_sem,z2,fz3,z4]
 ·try simp only [go_sem,n1,n2,n3,n4] at z2
  all_goals
  obtain rfl:=AB h
  refine ⟨0,fun L hL => ?_⟩
  simp only [go_sem,z2]
attribute [local go_sem] Wr WN Qc Qb Qa jg in
theorem AIX {s_:AQ} {y_:(List Star) × AQ} (h:Id s_ = some y_):ox.F [.mem 3 [Ah s_] 0] = ⟨true,.fresh 5 (List.map Al y_.1),[.mem 3 [Ah y_.2] 0]⟩:=by
 refine FC ?_
 dsimp only [Id] at h
 obtain ⟨y_1,z1,h⟩:=AC h
 have fz1:=AIZ z1
 try simp only [go_sem] at fz1
 obtain ⟨y_8,z8,h⟩:=AC h
 obtain ⟨Lz8,ez8⟩:=Oa z8
 obtain rfl:=AB h
 refine ⟨Lz8,fun L hL => ?_⟩
 have ez8:=ez8 L (by omega)
 try simp only [go_sem] at ez8
 simp only [go_sem,fz1,ez8]
def xk:List Nat:=[0,1,5]
def tZ:CI:=⟨2,3,.seq (.region false [ PM 4 0,VO 2 5 (.call 31 [(.s 0),(I6 5)])]) (.block 0 (.test false [ PO 7 (.bin false .eql (.v 2) (I6 0)),PO 6 (.mov (.s 0))] (.s 0) (.region false [ PM 8 1,PM 9 0,PO 10 (.mkSl 1 (.str []) 3 [(0,(.c (.str []))),(1,(.c (.str [82,82]))),(2,(.c (.str [122,122])))]),PO 11 (.call 105 [(.s 1),(.s 0)]),PO 12 (.nilck (.s 3)),PO 13 (.fldAddr 0 (.s 0)),⟨.no,0,none,.store 1 (.s 0) (.s 2)⟩]) (.test false [ PO 15 (.bin false .eql (.v 2) (I6 1)),PO 14 (.mov (.s 0))] (.s 0) (.region false [ PM 16 1,PM 17 0,PO 18 (.mkSl 1 (.int .i64 (0)) 4
 [(0,(.c (.int .i64 (-1)))),(1,(I6 0)),(2,(I6 86399)),(3,(I6 86400))]),PO 19 (.call 30 [(.s 1),(.s 0)]),PO 20 (.nilck (.s 3)),PO 21 (.fldAddr 1 (.s 0)),⟨.no,0,none,.store 1 (.s 0) (.s 2)⟩]) (.test false [ PO 23 (.bin false .eql (.v 2) (I6 2)),PO 22 (.mov (.s 0))] (.s 0) (.region false [ PM 24 1,PM 25 0,PO 26 (.mkSl 1 (.int .i64 (0)) 4 [(0,(.c (.int .i64 (-324001)))),(1,(.c (.int .i64 (-324000)))),(2,(I6 324000)),(3,(I6 324001))]),PO 27 (.call 30 [(.s 1),(.s 0)]),PO 28 (.nilck (.s 3)),PO 29 (.fldAddr 2 (.s 0)),⟨.no,0,none,.store 1 (.s 0) (.s 2)⟩]) (.test false [
 PO 31 (.bin false .eql (.v 2) (I6 3)),PO 30 (.mov (.s 0))] (.s 0) (.region false [ PM 32 1,PM 33 0,PO 34 (.call 140 [(.s 0)]),PO 35 (.nilck (.s 2)),PO 36 (.fldAddr 3 (.s 0)),⟨.no,0,none,.store 1 (.s 0) (.s 2)⟩]) (.test false [ PO 38 (.bin false .eql (.v 2) (I6 4)),PO 37 (.mov (.s 0))] (.s 0) (.region false [ PM 39 1,PM 40 0,PO 41 (.call 140 [(.s 0)]),PO 42 (.nilck (.s 2)),PO 43 (.fldAddr 4 (.s 0)),⟨.no,0,none,.store 1 (.s 0) (.s 2)⟩]) (.skip))))))),[]⟩
noncomputable def pe:List (Nat × Ax):=[(31,LH),(105,jz),(30,Ld),(140,fX)]
theorem sH:AR pe 31 = some LH:=rfl
theorem lY:AR pe 105 = some jz:=rfl
theorem sI:AR pe 30 = some Ld:=rfl
theorem lX:AR pe 140 = some fX:=rfl
noncomputable def ow:Ax:=OE pe tZ [.io,.io]
theorem s_29:AU Tryz.prog 114 ow:=Bb _ (AG au (AG s_5 (AG da (AG AFm AP)))) (by kernel_rfl:Af Tryz.prog 114 tZ xk = true)
theorem M_29:ow.modes = [.io,.io]:=rfl
theorem AJs:ow.flat = false:=rfl
attribute [go_sem] M_29 AJs sH lY sI lX
attribute [local go_sem] tZ in
theorem zb {s_:AQ} {x:List Star} {x_ix:Int} {y_:AQ × (List Star)} (h:DD s_ x x_ix = some y_):ow.F [.mem 3 [Ah s_] 0,.mem 5 (List.map Al x) x_ix.toNat] = ⟨true,.cv undef,[.mem 3 [Ah y_.1] 0,.mem 5 (List.map Al y_.2) 0]⟩:=by
 refine FC ?_
 dsimp only [DD] at h
 obtain ⟨z1,h⟩:=AF h
 have lz1:=Au z1
 have xz1:=AK Al x lz1
 try simp only [go_sem] at lz1
 try simp only [go_sem] at xz1
 try simp only [go_sem,n1,n2,n3,n4] at z1
 all_goals
 obtain ⟨y_2,z2,h⟩:=AC h
 have fz2:=Ed z2
 try simp only [go_sem,z1] at fz2
 rcases AD h with ⟨z3,h⟩ | ⟨z3,h⟩
 ·try simp only [go_sem,n1,n2,n3,n4,z1] at z3
  all_goals
  obtain ⟨y_4,z4,h⟩:=AC h
  have fz4:=Yw z4
  try simp only [go_sem,z1,z3] at fz4
  obtain ⟨z5,h⟩:=AF h
  try simp only [go_sem,n1,n2,n3,n4,z1,z3] at z5
  all_goals
  obtain rfl:=AB h
  refine ⟨0,fun L hL => ?_⟩
  simp only [go_sem,z1,lz1,xz1,fz2,z3,fz4,z5]
 ·try simp only [go_sem,n1,n2,n3,n4,z1] at z3
  all_goals
  rcases AD h with ⟨z6,h⟩ | ⟨z6,h⟩
  ·try simp only [go_sem,n1,n2,n3,n4,z1,z3] at z6
   all_goals
   obtain ⟨y_7,z7,h⟩:=AC h
   have fz7:=MX z7
   try simp only [go_sem,z1,z3,z6] at fz7
   obtain ⟨z8,h⟩:=AF h
   try simp only [go_sem,n1,n2,n3,n4,z1,z3,z6] at z8
   all_goals
   obtain rfl:=AB h
   refine ⟨0,fun L hL => ?_⟩
   simp only [go_sem,z1,lz1,xz1,fz2,z3,z6,fz7,z8]
  ·try simp only [go_sem,n1,n2,n3,n4,z1,z3] at z6
   all_goals
   rcases AD h with ⟨z9,h⟩ | ⟨z9,h⟩
   ·try simp only [go_sem,n1,n2,n3,n4,z1,z3,z6] at z9
    all_goals
    obtain ⟨y_10,z10,h⟩:=AC h
    have fz10:=MX z10
    try simp only [go_sem,z1,z3,z6,z9] at fz10
    obtain ⟨z11,h⟩:=AF h
    try simp only [go_sem,n1,n2,n3,n4,z1,z3,z6,z9] at z11
    all_goals
    obtain rfl:=AB h
    refine ⟨0,fun L hL => ?_⟩
    simp only [go_sem,z1,lz1,xz1,fz2,z3,z6,z9,fz10,z11]
   ·try simp only [go_sem,n1,n2,n3,n4,z1,z3,z6] at z9
    all_goals
    rcases AD h with ⟨z12,h⟩ | ⟨z12,h⟩
    ·try simp only [go_sem,n1,n2,n3,n4,z1,z3,z6,z9] at z12
     all_goals
     obtain ⟨y_13,z13,h⟩:=AC h
     have fz13:=uv z13
     try simp only [go_sem,z1,z3,z6,z9,z12] at fz13
     obtain ⟨z14,h⟩:=AF h
     try simp only [go_sem,n1,n2,n3,n4,z1,z3,z6,z9,z12] at z14
     all_goals
     obtain rfl:=AB h
     refine ⟨0,fun L hL => ?_⟩
     simp only [go_sem,z1,lz1,xz1,fz2,z3,z6,z9,z12,fz13,z14]
    ·try simp only [go_sem,n1,n2,n3,n4,z1,z3,z6,z9] at z12
     all_goals
     rcases AD h with ⟨z15,h⟩ | ⟨z15,h⟩
     ·try simp only [go_sem,n1,n2,n3,n4,z1,z3,z6,z9,z12] at z15
      all_goals
      obtain ⟨y_16,z16,h⟩:=AC h
      have fz16:=uv z16
      try simp only [go_sem,z1,z3,z6,z9,z12,z15] at fz16
      obtain ⟨z17,h⟩:=AF h
      try simp only [go_sem,n1,n2,n3,n4,z1,z3,z6,z9,z12,z15] at z17
      all_goals
      obtain rfl:=AB h
      refine ⟨0,fun L hL => ?_⟩
      simp only [go_sem,z1,lz1,xz1,fz2,z3,z6,z9,z12,z15,fz16,z17]
     ·try simp only [go_sem,n1,n2,n3,n4,z1,z3,z6,z9,z12] at z15
      all_goals
      obtain rfl:=AB h
      refine ⟨0,fun L hL => ?_⟩
      simp only [go_sem,z1,lz1,xz1,fz2,z3,z6,z9,z12,z15]
def bm:IR:=.seq (.test false [ PM 14 3,PO 15 (.bin false .gtr (.s 0) (I6 0))] (.s 0) (.skip) (.exit 0)) (.seq (.block 1 (.seq (.region false [ PM 18 2,PO 19 (.len false (.s 0)),VS 4 5 0]) (.region false [ PM 20 2,PM 21 4,PO 22 (.bin false .quo (.s 0) (I6 26)),PO 23 (.bin false .add (I6 97) (.s 0)),PO 24 (.conv .u8 (.s 0)),PM 25 4,PO 26 (.bin false .rem (.s 0) (I6 26)),PO 27 (.bin false .add (I6 97) (.s 0)),PO 28 (.conv .u8 (.s 0)),PO 29 (.mkSl 1 (.int .u8 (0)) 2 [(0,(.s 4)),(1,(.s 0))]),PO 30 (.b2s (.s 0)),PO 31 (.bin false .add (.c (.str [115])) (.s 0)),PM 32 4,PM
 33 4,PO 34 (.bin false .add (I6 9000) (.s 0)),PO 35 (.build [.str [],.int .i64 (0),.int .i64 (0),.int .i64 (0),.int .i64 (0)] [(0,1,(.s 3)),(1,1,(.s 2)),(3,1,(I6 9000)),(4,1,(.s 0))]),PO 36 (.mkSl 5 (.agg [.str [],.int .i64 (0),.int .i64 (0),.int .i64 (0),.int .i64 (0)]) 1 [(0,(.s 0))]),PO 37 (.app 5 48 (.agg [.str [],.int .i64 (0),.int .i64 (0),.int .i64 (0),.int .i64 (0)]) (.s 16) (.s 0)),VS 2 3 0]))) (.region false [ PM 16 3,PO 17 (.bin false .sub (.s 0) (I6 1)),VS 3 4 0]))
def UV:List Bool:=[true,false,true,true,false]
def UU:List Bool:=[true,false,true,false,false]
def UT:List Bool:=[true,true,false,false,false]
def ABP:List Nat:=[0,2,3,4,5]
def wc:CI:=⟨1,5,.seq (.region false [ VO 1 2 (.newnil 5)]) (.seq (.region false [ PM 6 0,PO 7 (.call 113 [(.s 0)]),VS 2 3 0]) (.seq (.test false [ PM 8 0,PO 9 (.call 29 [(.s 0),(I6 24)])] (.s 0) (.seq (.region false [ PO 10 (.mkSl 5 (.agg [.str [],.int .i64 (0),.int .i64 (0),.int .i64 (0),.int .i64 (0)]) 0 []),VS 2 3 0]) (.seq (.region false [ PM 11 0,PO 12 (.call 31 [(.s 0),(I6 2)]),PO 13 (.bin false .add (I6 60) (.s 0)),VS 3 4 0]) (.block 0 (.loop UV UU UT bm)))) (.skip)) (.seq (.test false [ PM 38 2,PO 39 (.len false (.s 0)),PO 40 (.bin false .gtr
 (.s 0) (I6 0)),PO 41 (.mov (.s 0)),⟨.push,42,(some ((.s 0),true)),.mov (.v 0)⟩,⟨.push,43,(some ((.s 1),true)),.callw 29 [(.s 0),(I6 10)]⟩,PO 44 (.pick (.s 2) (.s 0) (.c (.bool false)))] (.s 0) (.region false [ PM 45 0,PM 46 2,PM 47 0,PM 48 2,PO 49 (.len false (.s 0)),PO 50 (.call 31 [(.s 2),(.s 0)]),PO 51 (.ixAddr 5 (.s 4) (.s 0)),PO 52 (.call 114 [(.s 6),(.s 0)])]) (.skip)) (.seq (.region false [ PM 53 2,VS 1 2 0]) (.ret))))),[.t 1]⟩
noncomputable def kK:List (Nat × Ax):=[(113,ox),(29,PH),(31,LH),(114,ow)]
theorem lW:AR kK 113 = some ox:=rfl
theorem sG:AR kK 29 = some PH:=rfl
theorem sF:AR kK 31 = some LH:=rfl
theorem lV:AR kK 114 = some ow:=rfl
noncomputable def ou:Ax:=OE kK wc [.io]
theorem s_30:AU Tryz.prog 69 ou:=Bb _ (AG s_28 (AG kV (AG au (AG s_29 AP)))) (by kernel_rfl:Af Tryz.prog 69 wc ABP = true)
theorem M_30:ou.modes = [.io]:=rfl
theorem AJr:ou.flat = false:=rfl
attribute [go_sem] M_30 AJr lW sG sF lV
def Wq (s_:AQ):((List Star) × Int) → St
 | (list,k) => ⟨[.ref 31 0 0,.any,.own 3200032,.int .i64 k,.any],[],[(31,⟨3,[Ah s_]⟩),(3200032,⟨5,List.map Al list⟩)],true⟩
def WM (s_:AQ) (y:(List Star)):EB:=(.exit 0,⟨[.ref 31 0 0,.any,.own 3200032,.any,.any],[],[(31,⟨3,[Ah s_]⟩),(3200032,⟨5,List.map Al y⟩)],true⟩)
attribute [local go_sem] wc Wq WM bm UV UU UT in
theorem Ob {s_:AQ} {sgm_:(List Star) × Int} {rho_:(List Star)} (h:AL (Du s_) sgm_ = some rho_):∃ L0,∀ L,L0 ≤ L → Bk (Az (AR kK) L bm) UV UU UT L (Wq s_ sgm_) = WM s_ rho_:=by
 refine As (E:=Wq s_) (R:=WM s_) (fun y => by first | (intro c; cases c) | (rcases y with y | y <;> (intro c; cases c)) | (rcases y with y | y | y <;> (intro c; cases c))) ?_ h
 clear h
 rintro ⟨list,k⟩ o_ h
 dsimp only [Du] at h
 rcases AD h with ⟨z5,h⟩ | ⟨z5,h⟩
 ·try simp only [go_sem,n1,n2,n3,n4] at z5
  all_goals
  obtain ⟨z6,h⟩:=AF h
  try simp only [go_sem,n1,n2,n3,n4,z5] at z6
  all_goals
  obtain ⟨z7,h⟩:=AF h
  try simp only [go_sem,n1,n2,n3,n4,z5,z6] at z7
  all_goals
  obtain ⟨z8,h⟩:=AF h
  try simp only [go_sem,n1,n2,n3,n4,z5,z6,z7] at z8
  all_goals
  obtain rfl:=AB h
  refine ⟨0,fun L hL => ?_⟩
  simp only [go_sem,z5,z6,z7,z8]
 ·try simp only [go_sem,n1,n2,n3,n4] at z5
  all_goals
  obtain rfl:=AB h
  refine ⟨0,fun L hL => ?_⟩
  simp only [go_sem,z5]
attribute [local go_sem] Wq WM UV UU UT wc in
theorem AIW {s_:AQ} {y_:(List Star) × AQ} (h:Ie s_ = some y_):ou.F [.mem 3 [Ah s_] 0] = ⟨true,.fresh 5 (List.map Al y_.1),[.mem 3 [Ah y_.2] 0]⟩:=by
 refine FC ?_
 dsimp only [Ie] at h
 obtain ⟨y_1,z1,h⟩:=AC h
 have fz1:=AIX z1
 try simp only [go_sem] at fz1
 obtain ⟨y_2,z2,h⟩:=AC h
 have fz2:=Jy z2
 try simp only [go_sem] at fz2
 rcases AD h with ⟨z3,h⟩ | ⟨z3,h⟩
 ·try simp only [go_sem,n1,n2,n3,n4] at z3
  all_goals
  obtain ⟨y_4,z4,h⟩:=AC h
  have fz4:=Ed z4
  try simp only [go_sem,z3] at fz4
  obtain ⟨y_9,z9,h⟩:=AC h
  obtain ⟨Lz9,ez9⟩:=Ob z9
  rcases AD h with ⟨z10,h⟩ | ⟨z10,h⟩
  ·try simp only [go_sem,n1,n2,n3,n4,z3] at z10
   all_goals
   obtain ⟨y_11,z11,h⟩:=AC h
   have fz11:=Jy z11
   try simp only [go_sem,z3,z10] at fz11
   rcases AD h with ⟨z12,h⟩ | ⟨z12,h⟩
   ·try simp only [go_sem,n1,n2,n3,n4,z3,z10] at z12
    all_goals
    obtain ⟨y_13,z13,h⟩:=AC h
    have fz13:=Ed z13
    try simp only [go_sem,z3,z10,z12] at fz13
    obtain ⟨z14,h⟩:=AF h
    have lz14:=Au z14
    have xz14:=AK Al y_9 lz14
    try simp only [go_sem] at lz14
    try simp only [go_sem] at xz14
    try simp only [go_sem,n1,n2,n3,n4,z3,z10,z12] at z14
    all_goals
    obtain ⟨y_15,z15,h⟩:=AC h
    have fz15:=zb z15
    try simp only [go_sem,z3,z10,z12,z14] at fz15
    obtain rfl:=AB h
    refine ⟨Lz9,fun L hL => ?_⟩
    have ez9:=ez9 L (by omega)
    try simp only [go_sem,z3,z10,z12,z14] at ez9
    simp only [go_sem,fz1,fz2,z3,fz4,z10,fz11,z12,fz13,z14,lz14,xz14,fz15,ez9]
   ·try simp only [go_sem,n1,n2,n3,n4,z3,z10] at z12
    all_goals
    obtain rfl:=AB h
    refine ⟨Lz9,fun L hL => ?_⟩
    have ez9:=ez9 L (by omega)
    try simp only [go_sem,z3,z10,z12] at ez9
    simp only [go_sem,fz1,fz2,z3,fz4,z10,fz11,z12,ez9]
  ·try simp only [go_sem,n1,n2,n3,n4,z3] at z10
   all_goals
   obtain rfl:=AB h
   refine ⟨Lz9,fun L hL => ?_⟩
   have ez9:=ez9 L (by omega)
   try simp only [go_sem,z3,z10] at ez9
   simp only [go_sem,fz1,fz2,z3,fz4,z10,ez9]
 ·try simp only [go_sem,n1,n2,n3,n4] at z3
  all_goals
  rcases AD h with ⟨z16,h⟩ | ⟨z16,h⟩
  ·try simp only [go_sem,n1,n2,n3,n4,z3] at z16
   all_goals
   obtain ⟨y_17,z17,h⟩:=AC h
   have fz17:=Jy z17
   try simp only [go_sem,z3,z16] at fz17
   rcases AD h with ⟨z18,h⟩ | ⟨z18,h⟩
   ·try simp only [go_sem,n1,n2,n3,n4,z3,z16] at z18
    all_goals
    obtain ⟨y_19,z19,h⟩:=AC h
    have fz19:=Ed z19
    try simp only [go_sem,z3,z16,z18] at fz19
    obtain ⟨z20,h⟩:=AF h
    have lz20:=Au z20
    have xz20:=AK Al y_1.1 lz20
    try simp only [go_sem] at lz20
    try simp only [go_sem] at xz20
    try simp only [go_sem,n1,n2,n3,n4,z3,z16,z18] at z20
    all_goals
    obtain ⟨y_21,z21,h⟩:=AC h
    have fz21:=zb z21
    try simp only [go_sem,z3,z16,z18,z20] at fz21
    obtain rfl:=AB h
    refine ⟨0,fun L hL => ?_⟩
    simp only [go_sem,fz1,fz2,z3,z16,fz17,z18,fz19,z20,lz20,xz20,fz21]
   ·try simp only [go_sem,n1,n2,n3,n4,z3,z16] at z18
    all_goals
    obtain rfl:=AB h
    refine ⟨0,fun L hL => ?_⟩
    simp only [go_sem,fz1,fz2,z3,z16,fz17,z18]
  ·try simp only [go_sem,n1,n2,n3,n4,z3] at z16
   all_goals
   obtain rfl:=AB h
   refine ⟨0,fun L hL => ?_⟩
   simp only [go_sem,fz1,fz2,z3,z16]
def xH:List Nat:=[0]
def tO:CI:=⟨0,1,.seq (.region false [ VO 0 0 (.newnil 1)]) (.seq (.region false [ PO 1 (.mkSl 1 (.str []) 6 [(0,(.c (.str [97,98]))),(1,(.c (.str [99,100,45,49]))),(2,(.c (.str [101,118,101]))),(3,(.c (.str [107,105,109]))),(4,(.c (.str [108,111,117]))),(5,(.c (.str [122,101,100])))]),VS 0 0 0]) (.ret)),[.t 0]⟩
noncomputable def t_31:List (Nat × Ax):=[]
noncomputable def oq:Ax:=Di t_31 tO []
theorem s_31:AU Tryz.prog 144 oq:=AM _ rfl AP (by kernel_rfl:Af Tryz.prog 144 tO xH = true)
theorem M_31:oq.modes = []:=rfl
theorem AJq:oq.flat = true:=rfl
attribute [go_sem] M_31 AJq
theorem AIV  {y_:(List (List UInt8))} (h:JU = some y_):oq.F [] = ⟨true,.fresh 1 (List.map AV.str y_),[]⟩:=by
 refine Ay (by simp only [Fo,Fu,GQ,List.all_cons,List.all_nil,Bool.and_self,Bx (f:=AV.str) (fun _ => rfl)]) ?_
 dsimp only [JU] at h
 obtain rfl:=AB h
 refine ⟨0,fun L hL => ?_⟩
 simp only [go_sem,tO]
def Xk:IR:=.seq (.test false [ PM 8 4,PM 9 2,PO 10 (.len false (.s 0)),PO 11 (.bin false .lss (.s 2) (.s 0))] (.s 0) (.skip) (.exit 0)) (.seq (.block 1 (.seq (.test false [ PM 14 0,PO 15 (.call 29 [(.s 0),(I6 3)])] (.s 0) (.exit 1) (.skip)) (.anyo 12 [ SO 0 16 (.mov (.v 3)),SO 1 17 (.mov (.v 2)),SO 2 18 (.flat (.mov (.v 4))),SO 3 19 (.ixAddr 1 (.s 1) (.s 2)),SO 4 20 (.load false 1 (.s 3)),SO 5 21 (.mov (.v 0)),SO 6 22 (.call 31 [(.s 5),(I6 60)]),SO 7 23 (.flat (.bin false .mul (I6 10) (.s 6))),SO 8 24 (.flat (.bin false .sub (.s 7) (I6 300))),SO 9 25 (.pur (.build [.str
 [],.int .i64 (0)] [(0,1,(.s 4)),(1,1,(.s 8))])),SO 10 26 (.pur (.mkSl 2 (.agg [.str [],.int .i64 (0)]) 1 [(0,(.s 9))])),SO 11 27 (.app 2 24 (.agg [.str [],.int .i64 (0)]) (.s 0) (.s 10)),VS 3 4 11] [[2,5,0,1,3,4,6,7,8,9,10,11,12],[2,5,0,1,3,6,4,7,8,9,10,11,12],[2,5,0,1,6,3,4,7,8,9,10,11,12],[2,5,0,6,1,3,4,7,8,9,10,11,12],[2,5,1,0,3,4,6,7,8,9,10,11,12],[2,5,1,0,3,6,4,7,8,9,10,11,12],[2,5,1,0,6,3,4,7,8,9,10,11,12],[2,5,1,3,0,4,6,7,8,9,10,11,12],[2,5,1,3,0,6,4,7,8,9,10,
 11,12],[2,5,1,3,4,0,6,7,8,9,10,11,12],[2,5,1,3,4,6,0,7,8,9,10,11,12],[2,5,1,3,6,0,4,7,8,9,10,11,12],[2,5,1,6,0,3,4,7,8,9,10,11,12],[2,5,6,0,1,3,4,7,8,9,10,11,12]] .skip))) (.region false [ PM 12 4,PO 13 (.bin false .add (.s 0) (I6 1)),VS 4 5 0]))
def QZ:List Bool:=[true,false,true,true,true]
def QY:List Bool:=[true,false,false,true,false]
def QX:List Bool:=[true,true,false,false,false]
def xj:List Nat:=[0,2,3,4,5]
def jf:CI:=⟨1,5,.seq (.region false [ VO 1 2 (.newnil 2)]) (.seq (.region false [ PO 6 (.call 144 []),VS 2 3 0]) (.seq (.region false [ PO 7 (.mkSl 2 (.agg [.str [],.int .i64 (0)]) 0 []),VS 3 4 0]) (.seq (.seq (.region false [ VO 4 5 (.mov (I6 0))]) (.block 0 (.loop QZ QY QX Xk))) (.seq (.region false [ PM 28 3,VS 1 2 0]) (.ret))))),[.t 1]⟩
noncomputable def pd:List (Nat × Ax):=[(144,oq),(29,PH),(31,LH)]
theorem lU:AR pd 144 = some oq:=rfl
theorem sE:AR pd 29 = some PH:=rfl
theorem sD:AR pd 31 = some LH:=rfl
noncomputable def oo:Ax:=OE pd jf [.io]
theorem s_32:AU Tryz.prog 115 oo:=Bb _ (AG s_31 (AG kV (AG au AP))) (by kernel_rfl:Af Tryz.prog 115 jf xj = true)
theorem M_32:oo.modes = [.io]:=rfl
theorem AJp:oo.flat = false:=rfl
attribute [go_sem] M_32 AJp lU sE sD
def Wp (names:List (List UInt8)):(AQ × (List Observer) × Int) → St
 | (s_,out,k) => ⟨[.ref 31 0 0,.any,.own 3200032,.own 3200064,.int .i64 k],[],[(31,⟨3,[Ah s_]⟩),(3200032,⟨1,List.map AV.str names⟩),(3200064,⟨2,List.map AX out⟩)],true⟩
def WL (names:List (List UInt8)) (y:AQ × (List Observer)):EB:=(.exit 0,⟨[.ref 31 0 0,.any,.any,.own 3200032,.any],[],[(31,⟨3,[Ah y.1]⟩),(3200032,⟨2,List.map AX y.2⟩)],true⟩)
attribute [local go_sem] jf Wp WL Xk QZ QY QX in
theorem OX {names:List (List UInt8)} {sgm_:AQ × (List Observer) × Int} {rho_:AQ × (List Observer)} (h:AL (Ds names) sgm_ = some rho_):∃ L0,∀ L,L0 ≤ L → Bk (Az (AR pd) L Xk) QZ QY QX L (Wp names sgm_) = WL names rho_:=by
 refine As (E:=Wp names) (R:=WL names) (fun y => by first | (intro c; cases c) | (rcases y with y | y <;> (intro c; cases c)) | (rcases y with y | y | y <;> (intro c; cases c))) ?_ h
 clear h
 rintro ⟨s_,out,k⟩ o_ h
 dsimp only [Ds] at h
 rcases AD h with ⟨z2,h⟩ | ⟨z2,h⟩
 ·try simp only [go_sem,n1,n2,n3,n4] at z2
  all_goals
  obtain ⟨y_3,z3,h⟩:=AC h
  have fz3:=Jy z3
  try simp only [go_sem,z2] at fz3
  rcases AD h with ⟨z4,h⟩ | ⟨z4,h⟩
  ·try simp only [go_sem,n1,n2,n3,n4,z2] at z4
   all_goals
   obtain rfl:=AB h
   refine ⟨0,fun L hL => ?_⟩
   simp only [go_sem,z2,fz3,z4]
  ·try simp only [go_sem,n1,n2,n3,n4,z2] at z4
   all_goals
   obtain ⟨z5,h⟩:=AF h
   have lz5:=Au z5
   have xz5:=AK AV.str names lz5
   try simp only [go_sem] at lz5
   try simp only [go_sem] at xz5
   try simp only [go_sem,n1,n2,n3,n4,z2,z4] at z5
   all_goals
   obtain ⟨y_6,z6,h⟩:=AC h
   have fz6:=Ed z6
   try simp only [go_sem,z2,z4,z5] at fz6
   obtain ⟨z7,h⟩:=AF h
   try simp only [go_sem,n1,n2,n3,n4,z2,z4,z5] at z7
   all_goals
   obtain rfl:=AB h
   refine ⟨0,fun L hL => ?_⟩
   simp only [go_sem,z2,fz3,z4,z5,lz5,xz5,fz6,z7]
 ·try simp only [go_sem,n1,n2,n3,n4] at z2
  all_goals
  obtain rfl:=AB h
  refine ⟨0,fun L hL => ?_⟩
  simp only [go_sem,z2]
attribute [local go_sem] Wp WL QZ QY QX jf in
theorem AIU {s_:AQ} {y_:(List Observer) × AQ} (h:Ib s_ = some y_):oo.F [.mem 3 [Ah s_] 0] = ⟨true,.fresh 2 (List.map AX y_.1),[.mem 3 [Ah y_.2] 0]⟩:=by
 refine FC ?_
 dsimp only [Ib] at h
 obtain ⟨y_1,z1,h⟩:=AC h
 have fz1:=AIV z1
 try simp only [go_sem] at fz1
 obtain ⟨y_8,z8,h⟩:=AC h
 obtain ⟨Lz8,ez8⟩:=OX z8
 obtain rfl:=AB h
 refine ⟨Lz8,fun L hL => ?_⟩
 have ez8:=ez8 L (by omega)
 try simp only [go_sem] at ez8
 simp only [go_sem,fz1,ez8]
def bh:IR:=.seq (.test false [ PM 15 3,PO 16 (.bin false .gtr (.s 0) (I6 0))] (.s 0) (.skip) (.exit 0)) (.seq (.block 1 (.seq (.region false [ PM 19 2,PO 20 (.len false (.s 0)),VS 4 5 0]) (.region false [ PM 21 2,PM 22 4,PO 23 (.bin false .quo (.s 0) (I6 26)),PO 24 (.bin false .add (I6 97) (.s 0)),PO 25 (.conv .u8 (.s 0)),PM 26 4,PO 27 (.bin false .rem (.s 0) (I6 26)),PO 28 (.bin false .add (I6 97) (.s 0)),PO 29 (.conv .u8 (.s 0)),PO 30 (.mkSl 1 (.int .u8 (0)) 2 [(0,(.s 4)),(1,(.s 0))]),PO 31 (.b2s (.s 0)),PO 32 (.bin false .add (.c (.str [111])) (.s 0)),PM 33 4,PO
 34 (.build [.str [],.int .i64 (0)] [(0,1,(.s 1)),(1,1,(.s 0))]),PO 35 (.mkSl 2 (.agg [.str [],.int .i64 (0)]) 1 [(0,(.s 0))]),PO 36 (.app 2 24 (.agg [.str [],.int .i64 (0)]) (.s 14) (.s 0)),VS 2 3 0]))) (.region false [ PM 17 3,PO 18 (.bin false .sub (.s 0) (I6 1)),VS 3 4 0]))
def US:List Bool:=[true,false,true,true,false,false,false]
def UR:List Bool:=[true,false,true,false,false,false,false]
def UQ:List Bool:=[true,true,false,false,false,false,false]
def ABO:List Nat:=[0,2,3,4,5,6,48]
def wb:CI:=⟨1,7,.seq (.region false [ VO 1 2 (.newnil 2)]) (.seq (.region false [ PM 7 0,PO 8 (.call 115 [(.s 0)]),VS 2 3 0]) (.seq (.test false [ PM 9 0,PO 10 (.call 29 [(.s 0),(I6 24)])] (.s 0) (.seq (.region false [ PO 11 (.mkSl 2 (.agg [.str [],.int .i64 (0)]) 0 []),VS 2 3 0]) (.seq (.region false [ PM 12 0,PO 13 (.call 31 [(.s 0),(I6 2)]),PO 14 (.bin false .add (I6 40) (.s 0)),VS 3 4 0]) (.block 0 (.loop US UR UQ bh)))) (.skip)) (.seq (.test false [ PM 37 2,PO 38 (.len false (.s 0)),PO 39 (.bin false .eql (.s 0) (I6 0))] (.s 0) (.seq (.region false
 [ PM 40 2,VS 1 2 0]) (.ret)) (.skip)) (.seq (.region false [ PM 41 2,PM 42 0,PM 43 2,PO 44 (.len false (.s 0)),PO 45 (.call 31 [(.s 2),(.s 0)]),PO 46 (.ixAddr 2 (.s 4) (.s 0)),VS 5 6 0]) (.seq (.seq (.region false [ PM 47 0,VO 6 48 (.call 31 [(.s 0),(I6 16)])]) (.block 2 (.test false [ PO 50 (.bin false .eql (.v 6) (I6 0)),PO 49 (.mov (.s 0))] (.s 0) (.region false [ PM 51 5,PM 52 0,PO 53 (.mkSl 1 (.str []) 4 [(0,(.c (.str []))),(1,(.c (.str [65,98]))),(2,(.c (.str [97,98]))),(3,(.c (.str [122,122])))]),PO 54 (.call 105 [(.s 1),(.s 0)]),PO 55 (.nilck (.s 3)),PO 56
 (.fldAddr 0 (.s 0)),⟨.no,0,none,.store 1 (.s 0) (.s 2)⟩]) (.test false [ PO 58 (.bin false .eql (.v 6) (I6 1)),PO 57 (.mov (.s 0))] (.s 0) (.region false [ PM 59 5,PM 60 0,PO 61 (.mkSl 1 (.int .i64 (0)) 6 [(0,(.c (.int .i64 (-2001)))),(1,(.c (.int .i64 (-2000)))),(2,(I6 0)),(3,(I6 2000)),(4,(I6 2001)),(5,(.c (.int .i64 (-9223372036854775808))))]),PO 62 (.call 30 [(.s 1),(.s 0)]),PO 63 (.nilck (.s 3)),PO 64 (.fldAddr 1 (.s 0)),⟨.no,0,none,.store 1 (.s 0) (.s 2)⟩]) (.skip))))) (.seq (.region false [ PM 65 2,VS 1 2 0]) (.ret))))))),[.t 1]⟩
noncomputable def gD:List (Nat × Ax):=[(115,oo),(29,PH),(31,LH),(105,jz),(30,Ld)]
theorem lS:AR gD 115 = some oo:=rfl
theorem sC:AR gD 29 = some PH:=rfl
theorem sA:AR gD 31 = some LH:=rfl
theorem lT:AR gD 105 = some jz:=rfl
theorem sB:AR gD 30 = some Ld:=rfl
noncomputable def om:Ax:=OE gD wb [.io]
theorem s_33:AU Tryz.prog 70 om:=Bb _ (AG s_32 (AG kV (AG au (AG s_5 (AG da AP))))) (by kernel_rfl:Af Tryz.prog 70 wb ABO = true)
theorem M_33:om.modes = [.io]:=rfl
theorem AJo:om.flat = false:=rfl
attribute [go_sem] M_33 AJo lS sC sA lT sB
def Wo (s_:AQ):((List Observer) × Int) → St
 | (list,k) => ⟨[.ref 31 0 0,.any,.own 3200032,.int .i64 k,.any,.any,.any],[],[(31,⟨3,[Ah s_]⟩),(3200032,⟨2,List.map AX list⟩)],true⟩
def WK (s_:AQ) (y:(List Observer)):EB:=(.exit 0,⟨[.ref 31 0 0,.any,.own 3200032,.any,.any,.any,.any],[],[(31,⟨3,[Ah s_]⟩),(3200032,⟨2,List.map AX y⟩)],true⟩)
set_option maxHeartbeats 64000000 in
attribute [local go_sem] wb Wo WK bh US UR UQ in
theorem OY {s_:AQ} {sgm_:(List Observer) × Int} {rho_:(List Observer)} (h:AL (Dt s_) sgm_ = some rho_):∃ L0,∀ L,L0 ≤ L → Bk (Az (AR gD) L bh) US UR UQ L (Wo s_ sgm_) = WK s_ rho_:=by
 refine As (E:=Wo s_) (R:=WK s_) (fun y => by first | (intro c; cases c) | (rcases y with y | y <;> (intro c; cases c)) | (rcases y with y | y | y <;> (intro c; cases c))) ?_ h
 clear h
 rintro ⟨list,k⟩ o_ h
 dsimp only [Dt] at h
 rcases AD h with ⟨z5,h⟩ | ⟨z5,h⟩
 ·try simp only [go_sem,n1,n2,n3,n4] at z5
  all_goals
  obtain ⟨z6,h⟩:=AF h
  try simp only [go_sem,n1,n2,n3,n4,z5] at z6
  all_goals
  obtain ⟨z7,h⟩:=AF h
  try simp only [go_sem,n1,n2,n3,n4,z5,z6] at z7
  all_goals
  obtain ⟨z8,h⟩:=AF h
  try simp only [go_sem,n1,n2,n3,n4,z5,z6,z7] at z8
  all_goals
  obtain rfl:=AB h
  refine ⟨0,fun L hL => ?_⟩
  simp only [go_sem,z5,z6,z7,z8]
 ·try simp only [go_sem,n1,n2,n3,n4] at z5
  all_goals
  obtain rfl:=AB h
  refine ⟨0,fun L hL => ?_⟩
  simp only [go_sem,z5]
set_option maxHeartbeats 64000000 in
attribute [local go_sem] Wo WK US UR UQ wb in
theorem za {s_:AQ} {y_:(List Observer) × AQ} (h:HC s_ = some y_):om.F [.mem 3 [Ah s_] 0] = ⟨true,.fresh 2 (List.map AX y_.1),[.mem 3 [Ah y_.2] 0]⟩:=by
 refine FC ?_
 dsimp only [HC] at h
 obtain ⟨y_1,z1,h⟩:=AC h
 have fz1:=AIU z1
 try simp only [go_sem] at fz1
 obtain ⟨y_2,z2,h⟩:=AC h
 have fz2:=Jy z2
 try simp only [go_sem] at fz2
 rcases AD h with ⟨z3,h⟩ | ⟨z3,h⟩
 ·try simp only [go_sem,n1,n2,n3,n4] at z3
  all_goals
  obtain ⟨y_4,z4,h⟩:=AC h
  have fz4:=Ed z4
  try simp only [go_sem,z3] at fz4
  obtain ⟨y_9,z9,h⟩:=AC h
  obtain ⟨Lz9,ez9⟩:=OY z9
  rcases AD h with ⟨z10,h⟩ | ⟨z10,h⟩
  ·try simp only [go_sem,n1,n2,n3,n4,z3] at z10
   all_goals
   obtain rfl:=AB h
   refine ⟨Lz9,fun L hL => ?_⟩
   have ez9:=ez9 L (by omega)
   try simp only [go_sem,z3,z10] at ez9
   simp only [go_sem,fz1,fz2,z3,fz4,z10,ez9]
  ·try simp only [go_sem,n1,n2,n3,n4,z3] at z10
   all_goals
   obtain ⟨y_11,z11,h⟩:=AC h
   have fz11:=Ed z11
   try simp only [go_sem,z3,z10] at fz11
   obtain ⟨z12,h⟩:=AF h
   have lz12:=Au z12
   have xz12:=AK AX y_9 lz12
   try simp only [go_sem] at lz12
   try simp only [go_sem] at xz12
   try simp only [go_sem,n1,n2,n3,n4,z3,z10] at z12
   all_goals
   obtain ⟨y_13,z13,h⟩:=AC h
   have fz13:=Ed z13
   try simp only [go_sem,z3,z10,z12] at fz13
   rcases AD h with ⟨z14,h⟩ | ⟨z14,h⟩
   ·try simp only [go_sem,n1,n2,n3,n4,z3,z10,z12] at z14
    all_goals
    obtain ⟨y_15,z15,h⟩:=AC h
    have fz15:=Yw z15
    try simp only [go_sem,z3,z10,z12,z14] at fz15
    obtain rfl:=AB h
    refine ⟨Lz9,fun L hL => ?_⟩
    have ez9:=ez9 L (by omega)
    try simp only [go_sem,z3,z10,z12,z14] at ez9
    simp only [go_sem,fz1,fz2,z3,fz4,z10,fz11,z12,lz12,xz12,fz13,z14,fz15,ez9]
   ·try simp only [go_sem,n1,n2,n3,n4,z3,z10,z12] at z14
    all_goals
    rcases AD h with ⟨z16,h⟩ | ⟨z16,h⟩
    ·try simp only [go_sem,n1,n2,n3,n4,z3,z10,z12,z14] at z16
     all_goals
     obtain ⟨y_17,z17,h⟩:=AC h
     have fz17:=MX z17
     try simp only [go_sem,z3,z10,z12,z14,z16] at fz17
     obtain rfl:=AB h
     refine ⟨Lz9,fun L hL => ?_⟩
     have ez9:=ez9 L (by omega)
     try simp only [go_sem,z3,z10,z12,z14,z16] at ez9
     simp only [go_sem,fz1,fz2,z3,fz4,z10,fz11,z12,lz12,xz12,fz13,z14,z16,fz17,ez9]
    ·try simp only [go_sem,n1,n2,n3,n4,z3,z10,z12,z14] at z16
     all_goals
     obtain rfl:=AB h
     refine ⟨Lz9,fun L hL => ?_⟩
     have ez9:=ez9 L (by omega)
     try simp only [go_sem,z3,z10,z12,z14,z16] at ez9
     simp only [go_sem,fz1,fz2,z3,fz4,z10,fz11,z12,lz12,xz12,fz13,z14,z16,ez9]
 ·try simp only [go_sem,n1,n2,n3,n4] at z3
  all_goals
  rcases AD h with ⟨z18,h⟩ | ⟨z18,h⟩
  ·try simp only [go_sem,n1,n2,n3,n4,z3] at z18
   all_goals
   obtain rfl:=AB h
   refine ⟨0,fun L hL => ?_⟩
   simp only [go_sem,fz1,fz2,z3,z18]
  ·try simp only [go_sem,n1,n2,n3,n4,z3] at z18
   all_goals
   obtain ⟨y_19,z19,h⟩:=AC h
   have fz19:=Ed z19
   try simp only [go_sem,z3,z18] at fz19
   obtain ⟨z20,h⟩:=AF h
   have lz20:=Au z20
   have xz20:=AK AX y_1.1 lz20
   try simp only [go_sem] at lz20
   try simp only [go_sem] at xz20
   try simp only [go_sem,n1,n2,n3,n4,z3,z18] at z20
   all_goals
   obtain ⟨y_21,z21,h⟩:=AC h
   have fz21:=Ed z21
   try simp only [go_sem,z3,z18,z20] at fz21
   rcases AD h with ⟨z22,h⟩ | ⟨z22,h⟩
   ·try simp only [go_sem,n1,n2,n3,n4,z3,z18,z20] at z22
    all_goals
    obtain ⟨y_23,z23,h⟩:=AC h
    have fz23:=Yw z23
    try simp only [go_sem,z3,z18,z20,z22] at fz23
    obtain rfl:=AB h
    refine ⟨0,fun L hL => ?_⟩
    simp only [go_sem,fz1,fz2,z3,z18,fz19,z20,lz20,xz20,fz21,z22,fz23]
   ·try simp only [go_sem,n1,n2,n3,n4,z3,z18,z20] at z22
    all_goals
    rcases AD h with ⟨z24,h⟩ | ⟨z24,h⟩
    ·try simp only [go_sem,n1,n2,n3,n4,z3,z18,z20,z22] at z24
     all_goals
     obtain ⟨y_25,z25,h⟩:=AC h
     have fz25:=MX z25
     try simp only [go_sem,z3,z18,z20,z22,z24] at fz25
     obtain rfl:=AB h
     refine ⟨0,fun L hL => ?_⟩
     simp only [go_sem,fz1,fz2,z3,z18,fz19,z20,lz20,xz20,fz21,z22,z24,fz25]
    ·try simp only [go_sem,n1,n2,n3,n4,z3,z18,z20,z22] at z24
     all_goals
     obtain rfl:=AB h
     refine ⟨0,fun L hL => ?_⟩
     simp only [go_sem,fz1,fz2,z3,z18,fz19,z20,lz20,xz20,fz21,z22,z24]
def ACQ:List Nat:=[0,2,3,4,5]
def nH:CI:=⟨1,5,.seq (.region false [ VO 1 2 (.newnil 5),VO 2 3 (.newnil 2)]) (.seq (.region false [ PM 6 0,PO 7 (.call 69 [(.s 0)]),VS 3 4 0]) (.seq (.region false [ PO 8 (.build [.str [],.int .i64 (0)] [(0,1,(.c (.str [97,98])))]),PO 9 (.mkSl 2 (.agg [.str [],.int .i64 (0)]) 1 [(0,(.s 0))]),VS 4 5 0]) (.seq (.test false [ PM 10 0,PO 11 (.call 29 [(.s 0),(I6 2)])] (.s 0) (.region false [ PM 12 4,PO 13 (.build [.str [],.int .i64 (0)] [(0,1,(.c (.str [99,100])))]),PO 14 (.mkSl 2 (.agg [.str [],.int .i64 (0)]) 1 [(0,(.s 0))]),PO 15 (.app 2 24 (.agg [.str [],.int
 .i64 (0)]) (.s 2) (.s 0)),VS 4 5 0]) (.skip)) (.seq (.test false [ PM 16 0,PO 17 (.call 29 [(.s 0),(I6 8)])] (.s 0) (.region false [ PM 18 0,PO 19 (.call 70 [(.s 0)]),VS 4 5 0]) (.skip)) (.seq (.region false [ PM 20 3,PM 21 4,VS 1 2 1,VS 2 3 0]) (.ret)))))),[.t 1,.t 2]⟩
noncomputable def vb:List (Nat × Ax):=[(69,ou),(29,PH),(70,om)]
theorem ry:AR vb 69 = some ou:=rfl
theorem rz:AR vb 29 = some PH:=rfl
theorem rx:AR vb 70 = some om:=rfl
noncomputable def ol:Ax:=OE vb nH [.io]
theorem s_34:AU Tryz.prog 28 ol:=Bb _ (AG s_30 (AG kV (AG s_33 AP))) (by kernel_rfl:Af Tryz.prog 28 nH ACQ = true)
theorem M_34:ol.modes = [.io]:=rfl
theorem AJn:ol.flat = false:=rfl
attribute [go_sem] M_34 AJn ry rz rx
theorem AIT {s_:AQ} {y_:(List Star) × (List Observer) × AQ} (h:Hd s_ = some y_):ol.F [.mem 3 [Ah s_] 0] = ⟨true,.tup [.fresh 5 (List.map Al y_.1),.fresh 2 (List.map AX y_.2.1)],[.mem 3 [Ah y_.2.2] 0]⟩:=by
 refine FC ?_
 dsimp only [Hd] at h
 obtain ⟨y_1,z1,h⟩:=AC h
 have fz1:=AIW z1
 try simp only [go_sem] at fz1
 obtain ⟨y_2,z2,h⟩:=AC h
 have fz2:=Jy z2
 try simp only [go_sem] at fz2
 rcases AD h with ⟨z3,h⟩ | ⟨z3,h⟩
 ·try simp only [go_sem,n1,n2,n3,n4] at z3
  all_goals
  obtain ⟨z4,h⟩:=AF h
  try simp only [go_sem,n1,n2,n3,n4,z3] at z4
  all_goals
  obtain ⟨y_5,z5,h⟩:=AC h
  have fz5:=Jy z5
  try simp only [go_sem,z3,z4] at fz5
  rcases AD h with ⟨z6,h⟩ | ⟨z6,h⟩
  ·try simp only [go_sem,n1,n2,n3,n4,z3,z4] at z6
   all_goals
   obtain ⟨y_7,z7,h⟩:=AC h
   have fz7:=za z7
   try simp only [go_sem,z3,z4,z6] at fz7
   obtain rfl:=AB h
   refine ⟨0,fun L hL => ?_⟩
   simp only [go_sem,nH,fz1,fz2,z3,z4,fz5,z6,fz7]
  ·try simp only [go_sem,n1,n2,n3,n4,z3,z4] at z6
   all_goals
   obtain rfl:=AB h
   refine ⟨0,fun L hL => ?_⟩
   simp only [go_sem,nH,fz1,fz2,z3,z4,fz5,z6]
 ·try simp only [go_sem,n1,n2,n3,n4] at z3
  all_goals
  obtain ⟨y_8,z8,h⟩:=AC h
  have fz8:=Jy z8
  try simp only [go_sem,z3] at fz8
  rcases AD h with ⟨z9,h⟩ | ⟨z9,h⟩
  ·try simp only [go_sem,n1,n2,n3,n4,z3] at z9
   all_goals
   obtain ⟨y_10,z10,h⟩:=AC h
   have fz10:=za z10
   try simp only [go_sem,z3,z9] at fz10
   obtain rfl:=AB h
   refine ⟨0,fun L hL => ?_⟩
   simp only [go_sem,nH,fz1,fz2,z3,fz8,z9,fz10]
  ·try simp only [go_sem,n1,n2,n3,n4,z3] at z9
   all_goals
   obtain rfl:=AB h
   refine ⟨0,fun L hL => ?_⟩
   simp only [go_sem,nH,fz1,fz2,z3,fz8,z9]
def AGZ:List Nat:=[0,2,3,4,5,6,7,8,9]
def ir5:CI:=⟨1,9,.seq (.region false [ VO 1 2 (.newnil 5),VO 2 3 (.newnil 5),VO 3 4 (.newnil 2),VO 4 5 (.mov (I6 0))]) (.seq (.region false [ PM 10 0,PO 11 (.call 26 [(.s 0)]),VS 5 6 0]) (.seq (.region false [ PM 12 5,PO 13 (.call 27 [(.s 0)]),VS 6 7 0]) (.seq (.region false [ PM 15 5,PO 16 (.call 28 [(.s 0)]),PO 14 (.mov (.s 0)),PO 17 (.ext (.s 0) 0),PO 18 (.ext (.s 1) 1),VS 7 8 1,VS 8 9 0]) (.seq (.test false [ PM 19 5,PO 20 (.call 29 [(.s 0),(I6 12)])] (.s 0) (.seq (.region false [ PM 21 6,PM 22 7,PM 23 8,PM 24 5,PO 25 (.mkSl 1 (.int .i64 (0)) 4 [(0,(.c (.int .i64
 (-1)))),(1,(I6 0)),(2,(I6 20000)),(3,(I6 20001))]),PO 26 (.call 30 [(.s 1),(.s 0)]),VS 1 2 5,VS 2 3 4,VS 3 4 3,VS 4 5 0]) (.ret)) (.skip)) (.seq (.region false [ PM 27 6,PM 28 7,PM 29 8,PM 30 5,PO 31 (.call 31 [(.s 0),(I6 9)]),PO 32 (.bin false .mul (I6 100) (.s 0)),VS 1 2 5,VS 2 3 4,VS 3 4 3,VS 4 5 0]) (.ret)))))),[.t 1,.t 2,.t 3,.t 4]⟩
noncomputable def gC:List (Nat × Ax):=[(26,kA),(27,fT),(28,ol),(29,PH),(30,Ld),(31,LH)]
theorem ru:AR gC 26 = some kA:=rfl
theorem rq:AR gC 27 = some fT:=rfl
theorem rp:AR gC 28 = some ol:=rfl
theorem ro:AR gC 29 = some PH:=rfl
theorem rn:AR gC 30 = some Ld:=rfl
theorem rm:AR gC 31 = some LH:=rfl
noncomputable def oj:Ax:=Di gC ir5 [.bor]
theorem s_35:AU Tryz.prog 5 oj:=AM _ rfl (AG s_1 (AG AFa (AG s_34 (AG kV (AG da (AG au AP)))))) (by kernel_rfl:Af Tryz.prog 5 ir5 AGZ = true)
theorem M_35:oj.modes = [.bor]:=rfl
theorem AJm:oj.flat = true:=rfl
attribute [go_sem] M_35 AJm ru rq rp ro rn rm
theorem AIS {code:List UInt8} {y_:(List AA) × (List Star) × (List Observer) × Int} (h:Cy code = some y_):oj.F [.sl 1 (List.map Co code)] = ⟨true,.tup [.fresh 5 (List.map AE y_.1),.fresh 5 (List.map Al y_.2.1),.fresh 2 (List.map AX y_.2.2.1),.int .i64 y_.2.2.2],[.any]⟩:=by
 refine Ay (by simp only [Fo,Fu,GQ,List.all_cons,List.all_nil,Bool.and_self,Bx (f:=AE) (fun _ => rfl),Bx (f:=Al) (fun _ => rfl),Bx (f:=AX) (fun _ => rfl)]) ?_
 dsimp only [Cy] at h
 obtain ⟨y_1,z1,h⟩:=AC h
 have fz1:=vF z1
 try simp only [go_sem] at fz1
 obtain ⟨y_2,z2,h⟩:=AC h
 have fz2:=zd z2
 try simp only [go_sem] at fz2
 obtain ⟨y_3,z3,h⟩:=AC h
 have fz3:=AIT z3
 try simp only [go_sem] at fz3
 obtain ⟨y_4,z4,h⟩:=AC h
 have fz4:=Jy z4
 try simp only [go_sem] at fz4
 rcases AD h with ⟨z5,h⟩ | ⟨z5,h⟩
 ·try simp only [go_sem,n1,n2,n3,n4] at z5
  all_goals
  obtain ⟨y_6,z6,h⟩:=AC h
  have fz6:=MX z6
  try simp only [go_sem,z5] at fz6
  obtain rfl:=AB h
  refine ⟨0,fun L hL => ?_⟩
  simp only [go_sem,ir5,fz1,fz2,fz3,fz4,z5,fz6]
 ·try simp only [go_sem,n1,n2,n3,n4] at z5
  all_goals
  obtain ⟨y_7,z7,h⟩:=AC h
  have fz7:=Ed z7
  try simp only [go_sem,z5] at fz7
  obtain rfl:=AB h
  refine ⟨0,fun L hL => ?_⟩
  simp only [go_sem,ir5,fz1,fz2,fz3,fz4,z5,fz7]
def ACE:List Nat:=[0,1,2,6]
def ACF:CI:=⟨3,4,.seq (.region false [ VO 3 6 (.mov (.c (.bool false)))]) (.seq (.region false [ PM 7 0,PM 8 1,PO 9 (.bin false .geq (.s 1) (.s 0)),PO 10 (.mov (.s 0)),⟨.push,11,(some ((.s 0),true)),.mov (.v 0)⟩,⟨.push,12,(some ((.s 1),true)),.mov (.v 2)⟩,⟨.push,13,(some ((.s 2),true)),.bin false .leq (.s 1) (.s 0)⟩,PO 14 (.pick (.s 3) (.s 0) (.c (.bool false))),VS 3 6 0]) (.ret)),[.t 3]⟩
noncomputable def t_36:List (Nat × Ax):=[]
noncomputable def Mb:Ax:=Di t_36 ACF [.bor,.bor,.bor]
theorem gJ:AU Tryz.prog 35 Mb:=AM _ rfl AP (by kernel_rfl:Af Tryz.prog 35 ACF ACE = true)
theorem M_36:Mb.modes = [.bor,.bor,.bor]:=rfl
theorem AJl:Mb.flat = true:=rfl
attribute [go_sem] M_36 AJl
theorem RY {n:Int} {low:Int} {high:Int} {y_:Bool} (h:Ee n low high = some y_):Mb.F [.int .i64 n,.int .i64 low,.int .i64 high] = ⟨true,.bool y_,[.any,.any,.any]⟩:=by
 refine Ay rfl ?_
 dsimp only [Ee] at h
 obtain rfl:=AB h
 refine ⟨0,fun L hL => ?_⟩
 simp only [go_sem,ACF]
def xi:List Nat:=[0,2]
def tY:CI:=⟨1,2,.seq (.region false [ VO 1 2 (.mov (.c (.bool false)))]) (.seq (.region false [ PM 3 0,PO 4 (.call 35 [(.s 0),(I6 0),(I6 10000000)]),VS 1 2 0]) (.ret)),[.t 1]⟩
noncomputable def AFA:List (Nat × Ax):=[(35,Mb)]
theorem rl:AR AFA 35 = some Mb:=rfl
noncomputable def oi:Ax:=Di AFA tY [.bor]
theorem s_37:AU Tryz.prog 116 oi:=AM _ rfl (AG gJ AP) (by kernel_rfl:Af Tryz.prog 116 tY xi = true)
theorem M_37:oi.modes = [.bor]:=rfl
theorem AJk:oi.flat = true:=rfl
attribute [go_sem] M_37 AJk rl
theorem AIR {t:Int} {y_:Bool} (h:Io t = some y_):oi.F [.int .i64 t] = ⟨true,.bool y_,[.any]⟩:=by
 refine Ay rfl ?_
 dsimp only [Io] at h
 obtain ⟨y_1,z1,h⟩:=AC h
 have fz1:=RY z1
 try simp only [go_sem] at fz1
 obtain rfl:=AB h
 refine ⟨0,fun L hL => ?_⟩
 simp only [go_sem,tY,fz1]
def Xj:IR:=.seq (.region false [ VO 7 17 (.bin false .lss (.v 6) (.v 5))]) (.seq (.cond (.v 7) (.skip) (.exit 0)) (.seq (.block 1 (.seq (.region false [ PM 18 6,VS 2 3 0]) (.seq (.region false [ PM 19 0,PM 20 2,PO 21 (.ixStr (.s 1) (.s 0)),PO 22 (.bin false .geq (.s 0) (.c (.int .u8 (97)))),PO 23 (.mov (.s 0)),⟨.push,24,(some ((.s 0),true)),.mov (.v 0)⟩,⟨.push,25,(some ((.s 1),true)),.mov (.v 2)⟩,⟨.push,26,(some ((.s 2),true)),.ixStr (.s 1) (.s 0)⟩,⟨.push,27,(some ((.s 3),true)),.bin false .leq (.s 0) (.c (.int .u8 (122)))⟩,PO 28 (.pick (.s 4) (.s 0) (.c
 (.bool false))),VS 3 4 0]) (.seq (.region false [ PM 29 0,PM 30 2,PO 31 (.ixStr (.s 1) (.s 0)),PO 32 (.bin false .geq (.s 0) (.c (.int .u8 (48)))),PO 33 (.mov (.s 0)),⟨.push,34,(some ((.s 0),true)),.mov (.v 0)⟩,⟨.push,35,(some ((.s 1),true)),.mov (.v 2)⟩,⟨.push,36,(some ((.s 2),true)),.ixStr (.s 1) (.s 0)⟩,⟨.push,37,(some ((.s 3),true)),.bin false .leq (.s 0) (.c (.int .u8 (57)))⟩,PO 38 (.pick (.s 4) (.s 0) (.c (.bool false))),PO 39 (.mov (.s 0)),⟨.push,40,(some ((.s 0),false)),.mov (.v 0)⟩,⟨.push,41,(some ((.s 1),false)),.mov (.v 2)⟩,⟨.push,42,(some
 ((.s 2),false)),.ixStr (.s 1) (.s 0)⟩,⟨.push,43,(some ((.s 3),false)),.bin false .eql (.s 0) (.c (.int .u8 (45)))⟩,PO 44 (.pick (.s 4) (.c (.bool true)) (.s 0)),VS 4 5 0]) (.test false [ PM 45 3,PO 46 (.un .not (.s 0)),PO 47 (.mov (.s 0)),⟨.push,48,(some ((.s 0),true)),.mov (.v 2)⟩,⟨.push,49,(some ((.s 1),true)),.bin false .eql (.s 0) (I6 0)⟩,⟨.push,50,(some ((.s 2),true)),.mov (.s 0)⟩,⟨.push,51,(some ((.s 0),false)),.mov (.v 4)⟩,⟨.push,52,(some ((.s 1),false)),.un .not (.s 0)⟩,⟨.push,53,(some ((.s 5),true)),.pick (.s 2) (.c (.bool true)) (.s 0)⟩,PO 54
 (.pick (.s 6) (.s 0) (.c (.bool false)))] (.s 0) (.seq (.region false [ VO 1 2 (.mov (.c (.bool false)))]) (.ret)) (.skip)))))) (.region false [ PO 55 (.bin false .add (.v 6) (I6 1)),VS 6 16 0])))
def QW:List Bool:=[true,false,false,false,false,true,true,false]
def QV:List Bool:=[false,false,false,false,false,false,false,false]
def QU:List Bool:=[false,true,false,false,false,false,false,false]
def xh:List Nat:=[0,2,3,4,5,15,16,17]
def je:CI:=⟨1,8,.seq (.region false [ VO 1 2 (.mov (.c (.bool false)))]) (.seq (.test false [ PM 6 0,PO 7 (.len true (.s 0)),PO 8 (.bin false .lss (.s 0) (I6 1)),PO 9 (.mov (.s 0)),⟨.push,10,(some ((.s 0),false)),.mov (.v 0)⟩,⟨.push,11,(some ((.s 1),false)),.len true (.s 0)⟩,⟨.push,12,(some ((.s 2),false)),.bin false .gtr (.s 0) (I6 12)⟩,PO 13 (.pick (.s 3) (.c (.bool true)) (.s 0))] (.s 0) (.seq (.region false [ VO 1 2 (.mov (.c (.bool false)))]) (.ret)) (.skip)) (.seq (.seq (.region false [ PM 14 0,VO 5 15 (.len true (.s 0)),VO 6 16 (.mov (I6 0))]) (.block 0
 (.loop QW QV QU Xj))) (.seq (.region false [ VO 1 2 (.mov (.c (.bool true)))]) (.ret)))),[.t 1]⟩
noncomputable def AEz:List (Nat × Ax):=[]
noncomputable def Ys:Ax:=Di AEz je [.bor]
theorem AAO:AU Tryz.prog 117 Ys:=AM _ rfl AP (by kernel_rfl:Af Tryz.prog 117 je xh = true)
theorem M_38:Ys.modes = [.bor]:=rfl
theorem AJj:Ys.flat = true:=rfl
attribute [go_sem] M_38 AJj
def Wn (s_:List UInt8) (t15:Int):Int → St
 | t16 => ⟨[.str s_,.any,.any,.any,.any,.int .i64 t15,.int .i64 t16,.any],[],[],true⟩
def WJ (s_:List UInt8) (t15:Int):(Unit ⊕ Bool) → EB
 | .inl y => (.exit 0,⟨[.any,.any,.any,.any,.any,.any,.any,.any],[],[],true⟩)
 | .inr y => (.ret,⟨[.any,.bool y,.any,.any,.any,.any,.any,.any],[],[],true⟩)
attribute [local go_sem] je Wn WJ Xj QW QV QU in
theorem Qp {s_:List UInt8} {t15:Int} {sgm_:Int} {rho_:Unit ⊕ Bool} (h:AL (Fk s_ t15) sgm_ = some rho_):∃ L0,∀ L,L0 ≤ L → Bk (Az (AR AEz) L Xj) QW QV QU L (Wn s_ t15 sgm_) = WJ s_ t15 rho_:=by
 refine As (E:=Wn s_ t15) (R:=WJ s_ t15) (fun y => by first | (intro c; cases c) | (rcases y with y | y <;> (intro c; cases c)) | (rcases y with y | y | y <;> (intro c; cases c))) ?_ h
 clear h
 intro t16 o_ h
 dsimp only [Fk] at h
 rcases AD h with ⟨z2,h⟩ | ⟨z2,h⟩
 ·try simp only [go_sem,n1,n2,n3,n4] at z2
  all_goals
  obtain ⟨z3,h⟩:=AF h
  try simp only [go_sem,n1,n2,n3,n4,z2] at z3
  all_goals
  rcases AD h with ⟨z4,h⟩ | ⟨z4,h⟩
  all_goals
  try simp only [go_sem,n1,n2,n3,n4,z2,z3] at z4
  all_goals
  obtain rfl:=AB h
  refine ⟨0,fun L hL => ?_⟩
  simp only [go_sem,z2,z3,z4]
 ·try simp only [go_sem,n1,n2,n3,n4] at z2
  all_goals
  obtain rfl:=AB h
  refine ⟨0,fun L hL => ?_⟩
  simp only [go_sem,z2]
attribute [local go_sem] je Wn WJ QW QV QU in
theorem fk {s_:List UInt8} {y_:Bool} (h:Cz s_ = some y_):Ys.F [.str s_] = ⟨true,.bool y_,[.any]⟩:=by
 refine Ay rfl ?_
 dsimp only [Cz] at h
 rcases AD h with ⟨z1,h⟩ | ⟨z1,h⟩
 ·try simp only [go_sem,n1,n2,n3,n4] at z1
  all_goals
  obtain rfl:=AB h
  refine ⟨0,fun L hL => ?_⟩
  simp only [go_sem,z1]
 ·try simp only [go_sem,n1,n2,n3,n4] at z1
  all_goals
  obtain ⟨y_5,z5,h⟩:=AC h
  obtain ⟨Lz5,ez5⟩:=Qp z5
  rcases y_5 with y_5a | y_5b
  all_goals
  dsimp only at h
  obtain rfl:=AB h
  refine ⟨Lz5,fun L hL => ?_⟩
  have ez5:=ez5 L (by omega)
  try simp only [go_sem,z1] at ez5
  simp only [go_sem,z1,ez5]
def xf:List Nat:=[0,2]
def tX:CI:=⟨1,2,.seq (.region false [ VO 1 2 (.mov (.c (.bool false)))]) (.seq (.region false [ PM 3 0,PO 4 (.call 35 [(.s 0),(.c (.int .i64 (-2000))),(I6 20000)]),VS 1 2 0]) (.ret)),[.t 1]⟩
noncomputable def AEy:List (Nat × Ax):=[(35,Mb)]
theorem rk:AR AEy 35 = some Mb:=rfl
noncomputable def fR:Ax:=Di AEy tX [.bor]
theorem AFY:AU Tryz.prog 118 fR:=AM _ rfl (AG gJ AP) (by kernel_rfl:Af Tryz.prog 118 tX xf = true)
theorem M_39:fR.modes = [.bor]:=rfl
theorem AJi:fR.flat = true:=rfl
attribute [go_sem] M_39 AJi rk
theorem uq {m:Int} {y_:Bool} (h:Cm m = some y_):fR.F [.int .i64 m] = ⟨true,.bool y_,[.any]⟩:=by
 refine Ay rfl ?_
 dsimp only [Cm] at h
 obtain ⟨y_1,z1,h⟩:=AC h
 have fz1:=RY z1
 try simp only [go_sem] at fz1
 obtain rfl:=AB h
 refine ⟨0,fun L hL => ?_⟩
 simp only [go_sem,tX,fz1]
def ABM:List Nat:=[0,1,2]
def nC:CI:=⟨1,3,.seq (.region false [ VO 1 1 (.box (.v 0)),VO 2 2 (.mov (.c (.bool false)))]) (.seq (.region false [ PO 3 (.fldAddr 0 (.v 1)),PO 4 (.load false 1 (.s 0)),PO 5 (.call 116 [(.s 0)]),PO 6 (.mov (.s 0)),⟨.push,7,(some ((.s 0),true)),.fldAddr 1 (.v 1)⟩,⟨.push,8,(some ((.s 1),true)),.load false 1 (.s 0)⟩,⟨.push,9,(some ((.s 2),true)),.call 117 [(.s 0)]⟩,PO 10 (.pick (.s 3) (.s 0) (.c (.bool false))),PO 11 (.mov (.s 0)),⟨.push,12,(some ((.s 0),true)),.fldAddr 2 (.v 1)⟩,⟨.push,13,(some ((.s 1),true)),.load false 1 (.s 0)⟩,⟨.push,14,(some ((.s
 2),true)),.call 117 [(.s 0)]⟩,PO 15 (.pick (.s 3) (.s 0) (.c (.bool false))),PO 16 (.mov (.s 0)),⟨.push,17,(some ((.s 0),true)),.fldAddr 3 (.v 1)⟩,⟨.push,18,(some ((.s 1),true)),.load false 1 (.s 0)⟩,⟨.push,19,(some ((.s 2),true)),.call 118 [(.s 0)]⟩,PO 20 (.pick (.s 3) (.s 0) (.c (.bool false))),VS 2 2 0]) (.ret)),[.t 2]⟩
noncomputable def va:List (Nat × Ax):=[(116,oi),(117,Ys),(118,fR)]
theorem lR:AR va 116 = some oi:=rfl
theorem lQ:AR va 117 = some Ys:=rfl
theorem lP:AR va 118 = some fR:=rfl
noncomputable def oh:Ax:=Di va nC [.bor]
theorem s_40:AU Tryz.prog 72 oh:=AM _ rfl (AG s_37 (AG AAO (AG AFY AP))) (by kernel_rfl:Af Tryz.prog 72 nC ABM = true)
theorem M_40:oh.modes = [.bor]:=rfl
theorem AJh:oh.flat = true:=rfl
attribute [go_sem] M_40 AJh lR lQ lP
theorem AIQ {e_:AA} {y_:Bool} (h:GP e_ = some y_):oh.F [AE e_] = ⟨true,.bool y_,[.any]⟩:=by
 refine Ay rfl ?_
 dsimp only [GP] at h
 obtain ⟨y_1,z1,h⟩:=AC h
 have fz1:=AIR z1
 try simp only [go_sem] at fz1
 obtain ⟨z2,h⟩:=AF h
 rcases Ab z2 with ⟨gz2,z2⟩ | gz2
 ·try simp only [go_sem,n1,n2,n3,n4] at gz2
  all_goals
  obtain ⟨y_2,hz2⟩:=Option.isSome_iff_exists.1 z2
  have fz2:=fk hz2
  try simp only [go_sem,n1,n2,n3,n4,gz2] at hz2
  all_goals
  try simp only [go_sem,gz2] at fz2
  obtain ⟨z3,h⟩:=AF h
  rcases Ab z3 with ⟨gz3,z3⟩ | gz3
  ·try simp only [go_sem,n1,n2,n3,n4,gz2,hz2] at gz3
   all_goals
   obtain ⟨y_3,hz3⟩:=Option.isSome_iff_exists.1 z3
   have fz3:=fk hz3
   try simp only [go_sem,n1,n2,n3,n4,gz2,hz2,gz3] at hz3
   all_goals
   try simp only [go_sem,gz2,hz2,gz3] at fz3
   obtain ⟨z4,h⟩:=AF h
   rcases Ab z4 with ⟨gz4,z4⟩ | gz4
   ·try simp only [go_sem,n1,n2,n3,n4,gz2,hz2,gz3,hz3] at gz4
    all_goals
    obtain ⟨y_4,hz4⟩:=Option.isSome_iff_exists.1 z4
    have fz4:=uq hz4
    try simp only [go_sem,n1,n2,n3,n4,gz2,hz2,gz3,hz3,gz4] at hz4
    all_goals
    try simp only [go_sem,gz2,hz2,gz3,hz3,gz4] at fz4
    obtain rfl:=AB h
    refine ⟨0,fun L hL => ?_⟩
    simp only [go_sem,nC,fz1,gz2,hz2,fz2,gz3,hz3,fz3,gz4,hz4,fz4]
   ·rcases DA gz4 with gz4a | ⟨gz4a,gz4b⟩
    ·try simp only [go_sem,n1,n2,n3,n4,gz2,hz2,gz3,hz3] at gz4a
     all_goals
     (simp_all)
    ·obtain ⟨gz4aa,gz4ab⟩:=RC gz4a
     try simp only [go_sem,n1,n2,n3,n4,gz2,hz2,gz3,hz3] at gz4aa
     all_goals
     try simp only [go_sem,n1,n2,n3,n4,gz2,hz2,gz3,hz3,gz4aa] at gz4ab
     all_goals
     try simp only [go_sem,n1,n2,n3,n4,gz2,hz2,gz3,hz3,gz4aa,gz4ab] at gz4b
     all_goals
     obtain rfl:=AB h
     refine ⟨0,fun L hL => ?_⟩
     simp only [go_sem,nC,fz1,gz2,hz2,fz2,gz3,hz3,fz3,gz4aa,gz4ab,gz4b]
  ·rcases DA gz3 with gz3a | ⟨gz3a,gz3b⟩
   ·try simp only [go_sem,n1,n2,n3,n4,gz2,hz2] at gz3a
    all_goals
    (simp_all)
   ·try simp only [go_sem,n1,n2,n3,n4,gz2,hz2] at gz3a
    all_goals
    try simp only [go_sem,n1,n2,n3,n4,gz2,hz2,gz3a] at gz3b
    all_goals
    obtain ⟨z4,h⟩:=AF h
    obtain rfl:=AB h
    refine ⟨0,fun L hL => ?_⟩
    simp only [go_sem,nC,fz1,gz2,hz2,fz2,gz3a,gz3b]
 ·try simp only [go_sem,n1,n2,n3,n4] at gz2
  all_goals
  obtain ⟨z3,h⟩:=AF h
  obtain ⟨z4,h⟩:=AF h
  obtain rfl:=AB h
  refine ⟨0,fun L hL => ?_⟩
  simp only [go_sem,nC,fz1,gz2]
def xG:List Nat:=[0,2]
def tN:CI:=⟨1,2,.seq (.region false [ VO 1 2 (.mov (.c (.bool false)))]) (.seq (.region false [ PM 3 0,PM 4 0,PO 5 (.bin false .neq (.s 1) (.s 0)),VS 1 2 0]) (.ret)),[.t 1]⟩
noncomputable def t_41:List (Nat × Ax):=[]
noncomputable def og:Ax:=Di t_41 tN [.bor]
theorem s_41:AU Tryz.prog 145 og:=AM _ rfl AP (by kernel_rfl:Af Tryz.prog 145 tN xG = true)
theorem M_41:og.modes = [.bor]:=rfl
theorem AJg:og.flat = true:=rfl
attribute [go_sem] M_41 AJg
theorem zZ {x:Int} {y_:Bool} (h:GR x = some y_):og.F [.int .i64 x] = ⟨true,.bool y_,[.any]⟩:=by
 refine Ay rfl ?_
 dsimp only [GR] at h
 obtain rfl:=AB h
 refine ⟨0,fun L hL => ?_⟩
 simp only [go_sem,tN]
def xc:List Nat:=[0,1,4,5,6]
def Zh:CI:=⟨2,5,.seq (.region false [ VO 2 4 (.mov (I6 0))]) (.seq (.region false [ PM 7 0,PO 8 (.call 145 [(.s 0)]),VS 3 5 0]) (.seq (.region false [ PM 9 1,PO 10 (.call 145 [(.s 0)]),VS 4 6 0]) (.seq (.test false [ PM 11 3] (.s 0) (.seq (.test false [ PM 12 4] (.s 0) (.seq (.region false [ VO 2 4 (.mov (I6 0))]) (.ret)) (.skip)) (.seq (.region false [ VO 2 4 (.mov (.c (.int .i64 (-1))))]) (.ret))) (.skip)) (.seq (.test false [ PM 13 4] (.s 0) (.seq (.region false [ VO 2 4 (.mov (I6 1))]) (.ret)) (.skip)) (.seq (.test false [ PM 14 0,PM 15 1,PO 16 (.bin false .lss (.s 1) (.s
 0))] (.s 0) (.seq (.region false [ VO 2 4 (.mov (.c (.int .i64 (-1))))]) (.ret)) (.skip)) (.seq (.test false [ PM 17 0,PM 18 1,PO 19 (.bin false .gtr (.s 1) (.s 0))] (.s 0) (.seq (.region false [ VO 2 4 (.mov (I6 1))]) (.ret)) (.skip)) (.seq (.region false [ VO 2 4 (.mov (I6 0))]) (.ret)))))))),[.t 2]⟩
noncomputable def AEx:List (Nat × Ax):=[(145,og)]
theorem lO:AR AEx 145 = some og:=rfl
noncomputable def oe:Ax:=Di AEx Zh [.bor,.bor]
theorem s_42:AU Tryz.prog 120 oe:=AM _ rfl (AG s_41 AP) (by kernel_rfl:Af Tryz.prog 120 Zh xc = true)
theorem M_42:oe.modes = [.bor,.bor]:=rfl
theorem AJf:oe.flat = true:=rfl
attribute [go_sem] M_42 AJf lO
theorem AIP {x:Int} {y:Int} {y_:Int} (h:FJ x y = some y_):oe.F [.int .i64 x,.int .i64 y] = ⟨true,.int .i64 y_,[.any,.any]⟩:=by
 refine Ay rfl ?_
 dsimp only [FJ] at h
 obtain ⟨y_1,z1,h⟩:=AC h
 have fz1:=zZ z1
 try simp only [go_sem] at fz1
 obtain ⟨y_2,z2,h⟩:=AC h
 have fz2:=zZ z2
 try simp only [go_sem] at fz2
 rcases AD h with ⟨z3,h⟩ | ⟨z3,h⟩
 ·try simp only [go_sem,n1,n2,n3,n4] at z3
  all_goals
  rcases AD h with ⟨z4,h⟩ | ⟨z4,h⟩
  all_goals
  try simp only [go_sem,n1,n2,n3,n4,z3] at z4
  all_goals
  obtain rfl:=AB h
  refine ⟨0,fun L hL => ?_⟩
  simp only [go_sem,Zh,fz1,fz2,z3,z4]
 ·try simp only [go_sem,n1,n2,n3,n4] at z3
  all_goals
  rcases AD h with ⟨z5,h⟩ | ⟨z5,h⟩
  ·try simp only [go_sem,n1,n2,n3,n4,z3] at z5
   all_goals
   obtain rfl:=AB h
   refine ⟨0,fun L hL => ?_⟩
   simp only [go_sem,Zh,fz1,fz2,z3,z5]
  ·try simp only [go_sem,n1,n2,n3,n4,z3] at z5
   all_goals
   rcases AD h with ⟨z6,h⟩ | ⟨z6,h⟩
   ·try simp only [go_sem,n1,n2,n3,n4,z3,z5] at z6
    all_goals
    obtain rfl:=AB h
    refine ⟨0,fun L hL => ?_⟩
    simp only [go_sem,Zh,fz1,fz2,z3,z5,z6]
   ·try simp only [go_sem,n1,n2,n3,n4,z3,z5] at z6
    all_goals
    rcases AD h with ⟨z7,h⟩ | ⟨z7,h⟩
    all_goals
    try simp only [go_sem,n1,n2,n3,n4,z3,z5,z6] at z7
    all_goals
    obtain rfl:=AB h
    refine ⟨0,fun L hL => ?_⟩
    simp only [go_sem,Zh,fz1,fz2,z3,z5,z6,z7]
theorem AAK:AU Tryz.prog 166 NG:=iL Tryz.func166 (by kernel_rfl) (by kernel_rfl) (by kernel_rfl) (by kernel_rfl)
def xF:List Nat:=[0,1,4]
def tM:CI:=⟨2,3,.seq (.region false [ VO 2 4 (.mov (I6 0))]) (.seq (.region false [ PM 5 0,PM 6 1,PO 7 (.call 166 [(.s 1),(.s 0)]),VS 2 4 0]) (.ret)),[.t 2]⟩
noncomputable def AEw:List (Nat × Ax):=[(166,NG)]
theorem lN:AR AEw 166 = some NG:=rfl
noncomputable def od:Ax:=Di AEw tM [.bor,.bor]
theorem s_44:AU Tryz.prog 146 od:=AM _ rfl (AG AAK AP) (by kernel_rfl:Af Tryz.prog 146 tM xF = true)
theorem M_44:od.modes = [.bor,.bor]:=rfl
theorem AJe:od.flat = true:=rfl
attribute [go_sem] M_44 AJe lN
theorem AIO {a:List UInt8} {b:List UInt8} {y_:Int} (h:Db a b = some y_):od.F [.str a,.str b] = ⟨true,.int .i64 y_,[.any,.any]⟩:=by
 refine Ay rfl ?_
 dsimp only [Db] at h
 obtain ⟨y_1,z1,h⟩:=AC h
 have fz1:=yW z1
 try simp only [go_sem] at fz1
 obtain rfl:=AB h
 refine ⟨0,fun L hL => ?_⟩
 simp only [go_sem,tM,fz1]
def xZ:List Nat:=[0,1,4]
def tW:CI:=⟨2,3,.seq (.region false [ VO 2 4 (.mov (I6 0))]) (.seq (.region false [ PM 5 0,PM 6 1,PO 7 (.call 146 [(.s 1),(.s 0)]),VS 2 4 0]) (.ret)),[.t 2]⟩
noncomputable def AEv:List (Nat × Ax):=[(146,od)]
theorem lM:AR AEv 146 = some od:=rfl
noncomputable def oc:Ax:=Di AEv tW [.bor,.bor]
theorem s_45:AU Tryz.prog 121 oc:=AM _ rfl (AG s_44 AP) (by kernel_rfl:Af Tryz.prog 121 tW xZ = true)
theorem M_45:oc.modes = [.bor,.bor]:=rfl
theorem AJd:oc.flat = true:=rfl
attribute [go_sem] M_45 AJd lM
theorem zY {a:List UInt8} {b:List UInt8} {y_:Int} (h:GM a b = some y_):oc.F [.str a,.str b] = ⟨true,.int .i64 y_,[.any,.any]⟩:=by
 refine Ay rfl ?_
 dsimp only [GM] at h
 obtain ⟨y_1,z1,h⟩:=AC h
 have fz1:=AIO z1
 try simp only [go_sem] at fz1
 obtain rfl:=AB h
 refine ⟨0,fun L hL => ?_⟩
 simp only [go_sem,tW,fz1]
def Xi:IR:=.seq (.region false [ VO 7 9 (.bin false .lss (.v 6) (.v 5))]) (.seq (.cond (.v 7) (.skip) (.exit 0)) (.seq (.block 1 (.seq (.region false [ PO 10 (.ixAddr 1 (.v 4) (.v 6)),PO 11 (.load false 1 (.s 0)),VS 3 5 0]) (.test false [ PM 12 3,PM 13 2,PO 14 (.bin false .neq (.s 1) (.s 0))] (.s 0) (.seq (.region false [ PM 15 3,VS 1 2 0]) (.ret)) (.skip)))) (.region false [ PO 16 (.bin false .add (.v 6) (I6 1)),VS 6 8 0])))
def QT:List Bool:=[false,false,true,false,true,true,true,false]
def QS:List Bool:=[false,false,true,false,false,false,false,false]
def QR:List Bool:=[false,true,false,false,false,false,false,false]
def xe:List Nat:=[0,2,3,5,6,7,8,9]
def jd:CI:=⟨1,8,.seq (.region false [ VO 1 2 (.mov (I6 0))]) (.seq (.region false [ VO 2 3 (.mov (I6 0))]) (.seq (.seq (.region false [ VO 4 6 (.mov (.v 0)),VO 5 7 (.len false (.v 4)),VO 6 8 (.mov (I6 0))]) (.block 0 (.loop QT QS QR Xi))) (.seq (.region false [ PM 17 2,VS 1 2 0]) (.ret)))),[.t 1]⟩
noncomputable def AEu:List (Nat × Ax):=[]
noncomputable def oa:Ax:=Di AEu jd [.bor]
theorem s_46:AU Tryz.prog 119 oa:=AM _ rfl AP (by kernel_rfl:Af Tryz.prog 119 jd xe = true)
theorem M_46:oa.modes = [.bor]:=rfl
theorem AJc:oa.flat = true:=rfl
attribute [go_sem] M_46 AJc
def Wm (zero:Int) (t6:List Int) (t7:Int):Int → St
 | t8 => ⟨[.any,.any,.int .i64 zero,.any,.sl 1 (List.map (AV.int .i64) t6),.int .i64 t7,.int .i64 t8,.any],[],[],true⟩
def WI (zero:Int) (t6:List Int) (t7:Int):(Unit ⊕ Int) → EB
 | .inl y => (.exit 0,⟨[.any,.any,.int .i64 zero,.any,.any,.any,.any,.any],[],[],true⟩)
 | .inr y => (.ret,⟨[.any,.int .i64 y,.any,.any,.any,.any,.any,.any],[],[],true⟩)
attribute [local go_sem] jd Wm WI Xi QT QS QR in
theorem Sg {zero:Int} {t6:List Int} {t7:Int} {sgm_:Int} {rho_:Unit ⊕ Int} (h:AL (GW zero t6 t7) sgm_ = some rho_):∃ L0,∀ L,L0 ≤ L → Bk (Az (AR AEu) L Xi) QT QS QR L (Wm zero t6 t7 sgm_) = WI zero t6 t7 rho_:=by
 refine As (E:=Wm zero t6 t7) (R:=WI zero t6 t7) (fun y => by first | (intro c; cases c) | (rcases y with y | y <;> (intro c; cases c)) | (rcases y with y | y | y <;> (intro c; cases c))) ?_ h
 clear h
 intro t8 o_ h
 dsimp only [GW] at h
 rcases AD h with ⟨z1,h⟩ | ⟨z1,h⟩
 ·try simp only [go_sem,n1,n2,n3,n4] at z1
  all_goals
  obtain ⟨z2,h⟩:=AF h
  have lz2:=Au z2
  have xz2:=AK (AV.int .i64) t6 lz2
  try simp only [go_sem] at lz2
  try simp only [go_sem] at xz2
  try simp only [go_sem,n1,n2,n3,n4,z1] at z2
  all_goals
  rcases AD h with ⟨z3,h⟩ | ⟨z3,h⟩
  all_goals
  try simp only [go_sem,n1,n2,n3,n4,z1,z2] at z3
  all_goals
  obtain rfl:=AB h
  refine ⟨0,fun L hL => ?_⟩
  simp only [go_sem,z1,z2,lz2,xz2,z3]
 ·try simp only [go_sem,n1,n2,n3,n4] at z1
  all_goals
  obtain rfl:=AB h
  refine ⟨0,fun L hL => ?_⟩
  simp only [go_sem,z1]
attribute [local go_sem] Wm WI QT QS QR jd in
theorem AIN {vals:List Int} {y_:Int} (h:KO vals = some y_):oa.F [.sl 1 (List.map (AV.int .i64) vals)] = ⟨true,.int .i64 y_,[.any]⟩:=by
 refine Ay rfl ?_
 dsimp only [KO] at h
 obtain ⟨y_4,z4,h⟩:=AC h
 obtain ⟨Lz4,ez4⟩:=Sg z4
 rcases y_4 with y_4a | y_4b
 all_goals
 dsimp only at h
 obtain rfl:=AB h
 refine ⟨Lz4,fun L hL => ?_⟩
 have ez4:=ez4 L (by omega)
 try simp only [go_sem] at ez4
 simp only [go_sem,ez4]
def ABK:List Nat:=[0,1,2,3,4]
def ABL:CI:=⟨2,5,.seq (.region false [ VO 2 2 (.box (.v 0)),VO 3 3 (.box (.v 1)),VO 4 4 (.mov (I6 0))]) (.seq (.anyo 17 [ SO 0 5 (.fldAddr 0 (.v 2)),SO 1 6 (.load false 1 (.s 0)),SO 2 7 (.fldAddr 0 (.v 3)),SO 3 8 (.load false 1 (.s 2)),SO 4 9 (.callp 120 [(.s 1),(.s 3)]),SO 5 10 (.fldAddr 1 (.v 2)),SO 6 11 (.load false 1 (.s 5)),SO 7 12 (.fldAddr 1 (.v 3)),SO 8 13 (.load false 1 (.s 7)),SO 9 14 (.callp 121 [(.s 6),(.s 8)]),SO 10 15 (.fldAddr 2 (.v 2)),SO 11 16 (.load false 1 (.s 10)),SO 12 17 (.fldAddr 2 (.v 3)),SO 13 18 (.load false 1 (.s 12)),SO 14 19 (.callp 121
 [(.s 11),(.s 13)]),SO 15 20 (.pur (.mkSl 1 (.int .i64 (0)) 3 [(0,(.s 4)),(1,(.s 9)),(2,(.s 14))])),SO 16 21 (.callp 119 [(.s 15)]),VS 4 4 16] [] .skip) (.ret)),[.t 4]⟩
noncomputable def vZ:List (Nat × Ax):=[(120,oe),(121,oc),(119,oa)]
theorem lK:AR vZ 120 = some oe:=rfl
theorem lJ:AR vZ 121 = some oc:=rfl
theorem lL:AR vZ 119 = some oa:=rfl
noncomputable def oZ:Ax:=Di vZ ABL [.bor,.bor]
theorem s_47:AU Tryz.prog 73 oZ:=AM _ rfl (AG s_42 (AG s_45 (AG s_46 AP))) (by kernel_rfl:Af Tryz.prog 73 ABL ABK = true)
theorem M_47:oZ.modes = [.bor,.bor]:=rfl
theorem AJb:oZ.flat = true:=rfl
attribute [go_sem] M_47 AJb lK lJ lL
theorem AIM {a:AA} {b:AA} {y_:Int} (h:Ck a b = some y_):oZ.F [AE a,AE b] = ⟨true,.int .i64 y_,[.any,.any]⟩:=by
 refine Ay rfl ?_
 dsimp only [Ck] at h
 obtain ⟨y_1,z1,h⟩:=AC h
 have fz1:=AIP z1
 try simp only [go_sem] at fz1
 obtain ⟨y_2,z2,h⟩:=AC h
 have fz2:=zY z2
 try simp only [go_sem] at fz2
 obtain ⟨y_3,z3,h⟩:=AC h
 have fz3:=zY z3
 try simp only [go_sem] at fz3
 obtain ⟨y_4,z4,h⟩:=AC h
 have fz4:=AIN z4
 try simp only [go_sem] at fz4
 obtain rfl:=AB h
 refine ⟨0,fun L hL => ?_⟩
 simp only [go_sem,ABL,fz1,fz2,fz3,fz4]
def cK:IR:=.seq (.region false [ VO 7 11 (.bin false .lss (.v 6) (.v 5))]) (.seq (.cond (.v 7) (.skip) (.exit 0)) (.seq (.block 1 (.seq (.region false [ PM 12 6,PO 13 (.ixAddr 5 (.v 4) (.v 6)),PO 14 (.load true 5 (.s 0)),VO 3 4 (.alloc (.agg [.int .i64 (0),.str [],.str [],.int .i64 (0),.bool false])),VS 2 3 2,⟨.no,0,none,.store 5 (.v 3) (.s 0)⟩]) (.anyo 17 [ SO 0 15 (.load true 5 (.v 3)),SO 1 16 (.callp 72 [(.s 0)]),SO 2 17 (.un .not (.s 1)),SO 3 18 (.mov (.s 2)),⟨.slot 4,19,(some ((.s 3),false)),.mov (.v 2)⟩,⟨.slot 5,20,(some ((.s 3),false)),.bin false .gtr
 (.s 4) (I6 0)⟩,⟨.slot 6,21,(some ((.s 3),false)),.mov (.s 5)⟩,⟨.slot 7,22,(some ((.s 6),true)),.mov (.v 0)⟩,⟨.slot 8,23,(some ((.s 6),true)),.mov (.v 2)⟩,⟨.slot 9,24,(some ((.s 6),true)),.bin false .sub (.s 8) (I6 1)⟩,⟨.slot 10,25,(some ((.s 6),true)),.ixAddr 5 (.s 7) (.s 9)⟩,⟨.slot 11,26,(some ((.s 6),true)),.load true 5 (.s 10)⟩,⟨.slot 12,27,(some ((.s 6),true)),.load true 5 (.v 3)⟩,⟨.slot 13,28,(some ((.s 6),true)),.call 73 [(.s 11),(.s 12)]⟩,⟨.slot 14,29,(some ((.s 6),true)),.bin false .geq (.s 13) (I6 0)⟩,⟨.slot 15,30,(some ((.s 3),
 false)),.pick (.s 6) (.s 14) (.c (.bool false))⟩,SO 16 31 (.pick (.s 3) (.c (.bool true)) (.s 15))] [] (.cond (.s 16) (.seq (.region false [ VO 1 2 (.mov (.c (.bool false)))]) (.ret)) (.skip))))) (.region false [ PO 32 (.bin false .add (.v 6) (I6 1)),VS 6 10 0])))
def VP:List Bool:=[true,false,false,false,true,true,true,false]
def VN:List Bool:=[false,false,false,false,false,false,false,false]
def VM:List Bool:=[false,true,false,false,false,false,false,false]
def ACK:List Nat:=[0,2,3,4,8,9,10,11]
def wu:CI:=⟨1,8,.seq (.region false [ VO 1 2 (.mov (.c (.bool false)))]) (.seq (.test false [ PM 5 0,PO 6 (.len false (.s 0)),PO 7 (.bin false .gtr (.s 0) (I6 100))] (.s 0) (.seq (.region false [ VO 1 2 (.mov (.c (.bool false)))]) (.ret)) (.skip)) (.seq (.seq (.region false [ VO 4 8 (.mov (.v 0)),VO 5 9 (.len false (.v 4)),VO 6 10 (.mov (I6 0))]) (.block 0 (.loop VP VN VM cK))) (.seq (.region false [ VO 1 2 (.mov (.c (.bool true)))]) (.ret)))),[.t 1]⟩
noncomputable def vY:List (Nat × Ax):=[(72,oh),(73,oZ)]
theorem rj:AR vY 72 = some oh:=rfl
theorem ri:AR vY 73 = some oZ:=rfl
noncomputable def fQ:Ax:=Di vY wu [.bor]
theorem AFX:AU Tryz.prog 32 fQ:=AM _ rfl (AG s_40 (AG s_47 AP)) (by kernel_rfl:Af Tryz.prog 32 wu ACK = true)
theorem M_48:fQ.modes = [.bor]:=rfl
theorem AJa:fQ.flat = true:=rfl
attribute [go_sem] M_48 AJa rj ri
def Wl (list:List AA) (t8:List AA) (t9:Int):Int → St
 | t10 => ⟨[.sl 5 (List.map AE list),.any,.any,.any,.sl 5 (List.map AE t8),.int .i64 t9,.int .i64 t10,.any],[],[],true⟩
def WH (list:List AA) (t8:List AA) (t9:Int):(Unit ⊕ Bool) → EB
 | .inl y => (.exit 0,⟨[.any,.any,.any,.any,.any,.any,.any,.any],[],[],true⟩)
 | .inr y => (.ret,⟨[.any,.bool y,.any,.any,.any,.any,.any,.any],[],[],true⟩)
attribute [local go_sem] wu Wl WH cK VP VN VM in
theorem Ka {list:List AA} {t8:List AA} {t9:Int} {sgm_:Int} {rho_:Unit ⊕ Bool} (h:AL (CF list t8 t9) sgm_ = some rho_):∃ L0,∀ L,L0 ≤ L → Bk (Az (AR vY) L cK) VP VN VM L (Wl list t8 t9 sgm_) = WH list t8 t9 rho_:=by
 refine As (E:=Wl list t8 t9) (R:=WH list t8 t9) (fun y => by first | (intro c; cases c) | (rcases y with y | y <;> (intro c; cases c)) | (rcases y with y | y | y <;> (intro c; cases c))) ?_ h
 clear h
 intro t10 o_ h
 dsimp only [CF] at h
 rcases AD h with ⟨z2,h⟩ | ⟨z2,h⟩
 ·try simp only [go_sem,n1,n2,n3,n4] at z2
  all_goals
  obtain ⟨z3,h⟩:=AF h
  have lz3:=Au z3
  have xz3:=AK AE t8 lz3
  try simp only [go_sem] at lz3
  try simp only [go_sem] at xz3
  try simp only [go_sem,n1,n2,n3,n4,z2] at z3
  all_goals
  obtain ⟨y_4,z4,h⟩:=AC h
  have fz4:=AIQ z4
  try simp only [go_sem,z2,z3] at fz4
  obtain ⟨z5,h⟩:=AF h
  rcases Ab z5 with ⟨gz5,z5⟩ | gz5
  ·try simp only [go_sem,n1,n2,n3,n4,z2,z3] at gz5
   all_goals
   have lz5:=Au z5
   have xz5:=AK AE list lz5
   try simp only [go_sem] at lz5
   try simp only [go_sem] at xz5
   try simp only [go_sem,n1,n2,n3,n4,z2,z3,gz5] at z5
   all_goals
   obtain ⟨z6,h⟩:=AF h
   rcases Ab z6 with ⟨gz6,z6⟩ | gz6
   ·try simp only [go_sem,n1,n2,n3,n4,z2,z3,gz5,z5] at gz6
    all_goals
    obtain ⟨y_6,hz6⟩:=Option.isSome_iff_exists.1 z6
    have fz6:=AIM hz6
    try simp only [go_sem,n1,n2,n3,n4,z2,z3,gz5,z5,gz6] at hz6
    all_goals
    try simp only [go_sem,z2,z3,gz5,z5,gz6] at fz6
    rcases AD h with ⟨z7,h⟩ | ⟨z7,h⟩
    all_goals
    try simp only [go_sem,n1,n2,n3,n4,z2,z3,gz5,z5,gz6,hz6] at z7
    all_goals
    obtain rfl:=AB h
    refine ⟨0,fun L hL => ?_⟩
    simp only [go_sem,z2,z3,lz3,xz3,fz4,gz5,z5,lz5,xz5,gz6,hz6,fz6,z7]
   ·rcases DA gz6 with gz6a | ⟨gz6a,gz6b⟩
    ·try simp only [go_sem,n1,n2,n3,n4,z2,z3,gz5,z5] at gz6a
     all_goals
     (simp_all)
    ·have gz6an:=Ha gz6a
     have gz6ann:=DT gz6an
     try simp only [go_sem,n1,n2,n3,n4,z2,z3,gz5,z5] at gz6ann
     all_goals
     try simp only [go_sem,n1,n2,n3,n4,z2,z3,gz5,z5,gz6ann] at gz6b
     all_goals
     rcases AD h with ⟨z7,h⟩ | ⟨z7,h⟩
     ·try simp only [go_sem,n1,n2,n3,n4,z2,z3,gz5,z5,gz6ann,gz6b] at z7
      all_goals
      (simp_all)
     ·try simp only [go_sem,n1,n2,n3,n4,z2,z3,gz5,z5,gz6ann,gz6b] at z7
      all_goals
      obtain rfl:=AB h
      refine ⟨0,fun L hL => ?_⟩
      simp only [go_sem,z2,z3,lz3,xz3,fz4,gz5,z5,lz5,xz5,gz6ann,gz6b,z7]
  ·rcases DA gz5 with gz5a | ⟨gz5a,gz5b⟩
   ·have gz5an:=DT gz5a
    have gz5ann:=Ha gz5an
    try simp only [go_sem,n1,n2,n3,n4,z2,z3] at gz5ann
    all_goals
    obtain ⟨z6,h⟩:=AF h
    rcases AD h with ⟨z7,h⟩ | ⟨z7,h⟩
    ·try simp only [go_sem,n1,n2,n3,n4,z2,z3,gz5ann] at z7
     all_goals
     obtain rfl:=AB h
     refine ⟨0,fun L hL => ?_⟩
     simp only [go_sem,z2,z3,lz3,xz3,fz4,gz5ann,z7]
    ·try simp only [go_sem,n1,n2,n3,n4,z2,z3,gz5ann] at z7
     all_goals
     (simp_all)
   ·have gz5an:=Ha gz5a
    have gz5ann:=DT gz5an
    try simp only [go_sem,n1,n2,n3,n4,z2,z3] at gz5ann
    all_goals
    try simp only [go_sem,n1,n2,n3,n4,z2,z3,gz5ann] at gz5b
    all_goals
    obtain ⟨z6,h⟩:=AF h
    rcases AD h with ⟨z7,h⟩ | ⟨z7,h⟩
    ·try simp only [go_sem,n1,n2,n3,n4,z2,z3,gz5ann,gz5b] at z7
     all_goals
     (simp_all)
    ·try simp only [go_sem,n1,n2,n3,n4,z2,z3,gz5ann,gz5b] at z7
     all_goals
     obtain rfl:=AB h
     refine ⟨0,fun L hL => ?_⟩
     simp only [go_sem,z2,z3,lz3,xz3,fz4,gz5ann,gz5b,z7]
 ·try simp only [go_sem,n1,n2,n3,n4] at z2
  all_goals
  obtain rfl:=AB h
  refine ⟨0,fun L hL => ?_⟩
  simp only [go_sem,z2]
attribute [local go_sem] wu Wl WH VP VN VM in
theorem zX {list:List AA} {y_:Bool} (h:DS list = some y_):fQ.F [.sl 5 (List.map AE list)] = ⟨true,.bool y_,[.any]⟩:=by
 refine Ay rfl ?_
 dsimp only [DS] at h
 rcases AD h with ⟨z1,h⟩ | ⟨z1,h⟩
 ·try simp only [go_sem,n1,n2,n3,n4] at z1
  all_goals
  obtain rfl:=AB h
  refine ⟨0,fun L hL => ?_⟩
  simp only [go_sem,z1]
 ·try simp only [go_sem,n1,n2,n3,n4] at z1
  all_goals
  obtain ⟨y_8,z8,h⟩:=AC h
  obtain ⟨Lz8,ez8⟩:=Ka z8
  rcases y_8 with y_8a | y_8b
  all_goals
  dsimp only at h
  obtain rfl:=AB h
  refine ⟨Lz8,fun L hL => ?_⟩
  have ez8:=ez8 L (by omega)
  try simp only [go_sem,z1] at ez8
  simp only [go_sem,z1,ez8]
def ABI:List Nat:=[0,1,2,3]
def iC:CI:=⟨1,4,.seq (.region false [ VO 1 1 (.box (.v 0)),VO 2 2 (.mov (.c (.bool false)))]) (.seq (.region false [ PO 4 (.fldAddr 1 (.v 1)),PO 5 (.load false 1 (.s 0)),PO 6 (.call 35 [(.s 0),(I6 0),(I6 86399)]),PO 7 (.mov (.s 0)),⟨.push,8,(some ((.s 0),true)),.fldAddr 2 (.v 1)⟩,⟨.push,9,(some ((.s 1),true)),.load false 1 (.s 0)⟩,⟨.push,10,(some ((.s 2),true)),.call 35 [(.s 0),(.c (.int .i64 (-324000))),(I6 324000)]⟩,PO 11 (.pick (.s 3) (.s 0) (.c (.bool false))),VS 3 3 0]) (.seq (.region false [ PO 12 (.fldAddr 0 (.v 1)),PO 13 (.load false 1 (.s 0)),PO 14
 (.call 117 [(.s 0)]),PO 15 (.mov (.s 0)),⟨.push,16,(some ((.s 0),true)),.mov (.v 3)⟩,PO 17 (.pick (.s 1) (.s 0) (.c (.bool false))),PO 18 (.mov (.s 0)),⟨.push,19,(some ((.s 0),true)),.fldAddr 3 (.v 1)⟩,⟨.push,20,(some ((.s 1),true)),.load false 1 (.s 0)⟩,⟨.push,21,(some ((.s 2),true)),.call 118 [(.s 0)]⟩,PO 22 (.pick (.s 3) (.s 0) (.c (.bool false))),PO 23 (.mov (.s 0)),⟨.push,24,(some ((.s 0),true)),.fldAddr 4 (.v 1)⟩,⟨.push,25,(some ((.s 1),true)),.load false 1 (.s 0)⟩,⟨.push,26,(some ((.s 2),true)),.call 118 [(.s 0)]⟩,PO 27 (.pick (.s 3) (.s 0) (.c
 (.bool false))),PO 28 (.mov (.s 0)),⟨.push,29,(some ((.s 0),true)),.fldAddr 3 (.v 1)⟩,⟨.push,30,(some ((.s 1),true)),.load false 1 (.s 0)⟩,⟨.push,31,(some ((.s 2),true)),.fldAddr 4 (.v 1)⟩,⟨.push,32,(some ((.s 3),true)),.load false 1 (.s 0)⟩,⟨.push,33,(some ((.s 4),true)),.bin false .leq (.s 2) (.s 0)⟩,PO 34 (.pick (.s 5) (.s 0) (.c (.bool false))),VS 2 2 0]) (.ret))),[.t 2]⟩
noncomputable def vX:List (Nat × Ax):=[(35,Mb),(117,Ys),(118,fR)]
theorem rh:AR vX 35 = some Mb:=rfl
theorem lI:AR vX 117 = some Ys:=rfl
theorem lH:AR vX 118 = some fR:=rfl
noncomputable def oY:Ax:=Di vX iC [.bor]
theorem s_49:AU Tryz.prog 75 oY:=AM _ rfl (AG gJ (AG AAO (AG AFY AP))) (by kernel_rfl:Af Tryz.prog 75 iC ABI = true)
theorem M_49:oY.modes = [.bor]:=rfl
theorem AJZ:oY.flat = true:=rfl
attribute [go_sem] M_49 AJZ rh lI lH
theorem AIL {x:Star} {y_:Bool} (h:Jg x = some y_):oY.F [Al x] = ⟨true,.bool y_,[.any]⟩:=by
 refine Ay rfl ?_
 dsimp only [Jg] at h
 obtain ⟨y_1,z1,h⟩:=AC h
 have fz1:=RY z1
 try simp only [go_sem] at fz1
 obtain ⟨z2,h⟩:=AF h
 rcases Ab z2 with ⟨gz2,z2⟩ | gz2
 ·try simp only [go_sem,n1,n2,n3,n4] at gz2
  all_goals
  obtain ⟨y_2,hz2⟩:=Option.isSome_iff_exists.1 z2
  have fz2:=RY hz2
  try simp only [go_sem,n1,n2,n3,n4,gz2] at hz2
  all_goals
  try simp only [go_sem,gz2] at fz2
  obtain ⟨y_3,z3,h⟩:=AC h
  have fz3:=fk z3
  try simp only [go_sem,gz2,hz2] at fz3
  obtain ⟨z4,h⟩:=AF h
  rcases Ab z4 with ⟨gz4,z4⟩ | gz4
  ·try simp only [go_sem,n1,n2,n3,n4,gz2,hz2] at gz4
   all_goals
   obtain ⟨y_4,hz4⟩:=Option.isSome_iff_exists.1 z4
   have fz4:=uq hz4
   try simp only [go_sem,n1,n2,n3,n4,gz2,hz2,gz4] at hz4
   all_goals
   try simp only [go_sem,gz2,hz2,gz4] at fz4
   obtain ⟨z5,h⟩:=AF h
   rcases Ab z5 with ⟨gz5,z5⟩ | gz5
   ·try simp only [go_sem,n1,n2,n3,n4,gz2,hz2,gz4,hz4] at gz5
    all_goals
    obtain ⟨y_5,hz5⟩:=Option.isSome_iff_exists.1 z5
    have fz5:=uq hz5
    try simp only [go_sem,n1,n2,n3,n4,gz2,hz2,gz4,hz4,gz5] at hz5
    all_goals
    try simp only [go_sem,gz2,hz2,gz4,hz4,gz5] at fz5
    obtain rfl:=AB h
    refine ⟨0,fun L hL => ?_⟩
    simp only [go_sem,iC,fz1,gz2,hz2,fz2,fz3,gz4,hz4,fz4,gz5,hz5,fz5]
   ·rcases DA gz5 with gz5a | ⟨gz5a,gz5b⟩
    ·try simp only [go_sem,n1,n2,n3,n4,gz2,hz2,gz4,hz4] at gz5a
     all_goals
     (simp_all)
    ·obtain ⟨gz5aa,gz5ab⟩:=RC gz5a
     obtain ⟨gz5aba,gz5abb⟩:=RC gz5ab
     try simp only [go_sem,n1,n2,n3,n4,gz2,hz2,gz4,hz4] at gz5aa
     all_goals
     try simp only [go_sem,n1,n2,n3,n4,gz2,hz2,gz4,hz4,gz5aa] at gz5aba
     all_goals
     try simp only [go_sem,n1,n2,n3,n4,gz2,hz2,gz4,hz4,gz5aa,gz5aba] at gz5abb
     all_goals
     try simp only [go_sem,n1,n2,n3,n4,gz2,hz2,gz4,hz4,gz5aa,gz5aba,gz5abb] at gz5b
     all_goals
     obtain rfl:=AB h
     refine ⟨0,fun L hL => ?_⟩
     simp only [go_sem,iC,fz1,gz2,hz2,fz2,fz3,gz4,hz4,fz4,gz5aa,gz5aba,gz5abb,gz5b]
  ·rcases DA gz4 with gz4a | ⟨gz4a,gz4b⟩
   ·try simp only [go_sem,n1,n2,n3,n4,gz2,hz2] at gz4a
    all_goals
    obtain ⟨z5,h⟩:=AF h
    obtain rfl:=AB h
    refine ⟨0,fun L hL => ?_⟩
    simp only [go_sem,iC,fz1,gz2,hz2,fz2,fz3,gz4a]
   ·rcases DA gz4b with gz4ba | ⟨gz4ba,gz4bb⟩
    ·try simp only [go_sem,n1,n2,n3,n4,gz2,hz2,gz4a] at gz4ba
     all_goals
     (simp_all)
    ·try simp only [go_sem,n1,n2,n3,n4,gz2,hz2] at gz4a
     all_goals
     try simp only [go_sem,n1,n2,n3,n4,gz2,hz2,gz4a] at gz4ba
     all_goals
     try simp only [go_sem,n1,n2,n3,n4,gz2,hz2,gz4a,gz4ba] at gz4bb
     all_goals
     obtain ⟨z5,h⟩:=AF h
     obtain rfl:=AB h
     refine ⟨0,fun L hL => ?_⟩
     simp only [go_sem,iC,fz1,gz2,hz2,fz2,fz3,gz4a,gz4ba,gz4bb]
 ·try simp only [go_sem,n1,n2,n3,n4] at gz2
  all_goals
  obtain ⟨y_3,z3,h⟩:=AC h
  have fz3:=fk z3
  try simp only [go_sem,gz2] at fz3
  obtain ⟨z4,h⟩:=AF h
  obtain ⟨z5,h⟩:=AF h
  obtain rfl:=AB h
  refine ⟨0,fun L hL => ?_⟩
  simp only [go_sem,iC,fz1,gz2,fz3]
def ABG:List Nat:=[0,1,2]
def ABH:CI:=⟨1,3,.seq (.region false [ VO 1 1 (.box (.v 0)),VO 2 2 (.mov (.c (.str [])))]) (.seq (.region false [ PO 3 (.fldAddr 0 (.v 1)),PO 4 (.load false 1 (.s 0)),VS 2 2 0]) (.ret)),[.t 2]⟩
noncomputable def t_50:List (Nat × Ax):=[]
noncomputable def oX:Ax:=Di t_50 ABH [.bor]
theorem s_50:AU Tryz.prog 76 oX:=AM _ rfl AP (by kernel_rfl:Af Tryz.prog 76 ABH ABG = true)
theorem M_50:oX.modes = [.bor]:=rfl
theorem AJY:oX.flat = true:=rfl
attribute [go_sem] M_50 AJY
theorem uo {x:Star} {y_:(List UInt8)} (h:FV x = some y_):oX.F [Al x] = ⟨true,.str y_,[.any]⟩:=by
 refine Ay rfl ?_
 dsimp only [FV] at h
 obtain rfl:=AB h
 refine ⟨0,fun L hL => ?_⟩
 simp only [go_sem,ABH]
def bg:IR:=.seq (.region false [ VO 10 18 (.bin false .lss (.v 9) (.v 8))]) (.seq (.cond (.v 10) (.skip) (.exit 0)) (.seq (.block 1 (.seq (.region false [ PM 19 9,PO 20 (.ixAddr 5 (.v 7) (.v 9)),PO 21 (.load true 5 (.s 0)),VO 6 10 (.alloc (.agg [.str [],.int .i64 (0),.int .i64 (0),.int .i64 (0),.int .i64 (0)])),VS 5 9 2,⟨.no,0,none,.store 5 (.v 6) (.s 0)⟩]) (.anyo 21 [ SO 0 22 (.mov (.v 2)),SO 1 23 (.load true 5 (.v 6)),SO 2 24 (.pur (.callv (.s 0) [(.s 1)])),SO 3 25 (.un .not (.s 2)),SO 4 26 (.mov (.s 3)),⟨.slot 5,27,(some ((.s 4),false)),.mov (.v 5)⟩,⟨.slot 6,
 28,(some ((.s 4),false)),.bin false .gtr (.s 5) (I6 0)⟩,⟨.slot 7,29,(some ((.s 4),false)),.mov (.s 6)⟩,⟨.slot 8,30,(some ((.s 7),true)),.mov (.v 3)⟩,⟨.slot 9,31,(some ((.s 7),true)),.mov (.v 0)⟩,⟨.slot 10,32,(some ((.s 7),true)),.mov (.v 5)⟩,⟨.slot 11,33,(some ((.s 7),true)),.bin false .sub (.s 10) (I6 1)⟩,⟨.slot 12,34,(some ((.s 7),true)),.ixAddr 5 (.s 9) (.s 11)⟩,⟨.slot 13,35,(some ((.s 7),true)),.load true 5 (.s 12)⟩,⟨.slot 14,36,(some ((.s 7),true)),.callv (.s 8) [(.s 13)]⟩,⟨.slot 15,37,(some ((.s 7),true)),.mov (.v 3)⟩,⟨.slot 16,38,(some
 ((.s 7),true)),.load true 5 (.v 6)⟩,⟨.slot 17,39,(some ((.s 7),true)),.callv (.s 15) [(.s 16)]⟩,⟨.slot 18,40,(some ((.s 7),true)),.bin false .geq (.s 14) (.s 17)⟩,⟨.slot 19,41,(some ((.s 4),false)),.pick (.s 7) (.s 18) (.c (.bool false))⟩,SO 20 42 (.pick (.s 4) (.c (.bool true)) (.s 19))] [] (.cond (.s 20) (.seq (.region false [ VO 4 8 (.mov (.c (.bool false)))]) (.ret)) (.skip))))) (.region false [ PO 43 (.bin false .add (.v 9) (I6 1)),VS 9 17 0])))
def UP:List Bool:=[true,false,true,true,false,false,false,true,true,true,false]
def UO:List Bool:=[false,false,false,false,false,false,false,false,false,false,false]
def UN:List Bool:=[false,false,false,false,true,false,false,false,false,false,false]
def ABJ:List Nat:=[0,1,2,3,8,9,10,15,16,17,18]
def wa:CI:=⟨4,11,.seq (.region false [ VO 4 8 (.mov (.c (.bool false)))]) (.seq (.test false [ PM 11 0,PO 12 (.len false (.s 0)),PM 13 1,PO 14 (.bin false .gtr (.s 1) (.s 0))] (.s 0) (.seq (.region false [ VO 4 8 (.mov (.c (.bool false)))]) (.ret)) (.skip)) (.seq (.seq (.region false [ VO 7 15 (.mov (.v 0)),VO 8 16 (.len false (.v 7)),VO 9 17 (.mov (I6 0))]) (.block 0 (.loop UP UO UN bg))) (.seq (.region false [ VO 4 8 (.mov (.c (.bool true)))]) (.ret)))),[.t 4]⟩
noncomputable def vW:List (Nat × Ax):=[(75,oY),(76,oX)]
theorem rg:AR vW 75 = some oY:=rfl
theorem rf:AR vW 76 = some oX:=rfl
noncomputable def oW:Ax:=Di vW wa [.bor,.bor,.bor,.bor]
theorem s_51:AU Tryz.prog 74 oW:=AM _ rfl (AG s_49 (AG s_50 AP)) (by kernel_rfl:Af Tryz.prog 74 wa ABJ = true)
theorem M_51:oW.modes = [.bor,.bor,.bor,.bor]:=rfl
theorem AJX:oW.flat = true:=rfl
attribute [go_sem] M_51 AJX rg rf
def Wk (list:List Star) (t15:List Star) (t16:Int):Int → St
 | t17 => ⟨[.sl 5 (List.map Al list),.any,.fn (.func 75) [] [],.fn (.func 76) [] [],.any,.any,.any,.sl 5 (List.map Al t15),.int .i64 t16,.int .i64 t17,.any],[],[],true⟩
def WG (list:List Star) (t15:List Star) (t16:Int):(Unit ⊕ Bool) → EB
 | .inl y => (.exit 0,⟨[.any,.any,.any,.any,.any,.any,.any,.any,.any,.any,.any],[],[],true⟩)
 | .inr y => (.ret,⟨[.any,.any,.any,.any,.bool y,.any,.any,.any,.any,.any,.any],[],[],true⟩)
set_option maxHeartbeats 64000000 in
attribute [local go_sem] wa Wk WG bg UP UO UN in
theorem Dn {list:List Star} {t15:List Star} {t16:Int} {sgm_:Int} {rho_:Unit ⊕ Bool} (h:AL (Ai list t15 t16) sgm_ = some rho_):∃ L0,∀ L,L0 ≤ L → Bk (Az (AR vW) L bg) UP UO UN L (Wk list t15 t16 sgm_) = WG list t15 t16 rho_:=by
 refine As (E:=Wk list t15 t16) (R:=WG list t15 t16) (fun y => by first | (intro c; cases c) | (rcases y with y | y <;> (intro c; cases c)) | (rcases y with y | y | y <;> (intro c; cases c))) ?_ h
 clear h
 intro t17 o_ h
 dsimp only [Ai] at h
 rcases AD h with ⟨z2,h⟩ | ⟨z2,h⟩
 ·try simp only [go_sem,n1,n2,n3,n4] at z2
  all_goals
  obtain ⟨z3,h⟩:=AF h
  have lz3:=Au z3
  have xz3:=AK Al t15 lz3
  try simp only [go_sem] at lz3
  try simp only [go_sem] at xz3
  try simp only [go_sem,n1,n2,n3,n4,z2] at z3
  all_goals
  obtain ⟨y_4,z4,h⟩:=AC h
  have fz4:=AIL z4
  try simp only [go_sem,z2,z3] at fz4
  obtain ⟨z5,h⟩:=AF h
  rcases Ab z5 with ⟨gz5,z5⟩ | gz5
  ·try simp only [go_sem,n1,n2,n3,n4,z2,z3] at gz5
   all_goals
   have lz5:=Au z5
   have xz5:=AK Al list lz5
   try simp only [go_sem] at lz5
   try simp only [go_sem] at xz5
   try simp only [go_sem,n1,n2,n3,n4,z2,z3,gz5] at z5
   all_goals
   obtain ⟨z6,h⟩:=AF h
   rcases Ab z6 with ⟨gz6,z6⟩ | gz6
   ·try simp only [go_sem,n1,n2,n3,n4,z2,z3,gz5,z5] at gz6
    all_goals
    obtain ⟨y_6,hz6⟩:=Option.isSome_iff_exists.1 z6
    have fz6:=uo hz6
    try simp only [go_sem,n1,n2,n3,n4,z2,z3,gz5,z5,gz6] at hz6
    all_goals
    try simp only [go_sem,z2,z3,gz5,z5,gz6] at fz6
    obtain ⟨z7,h⟩:=AF h
    rcases Ab z7 with ⟨gz7,z7⟩ | gz7
    ·try simp only [go_sem,n1,n2,n3,n4,z2,z3,gz5,z5,gz6,hz6] at gz7
     all_goals
     obtain ⟨y_7,hz7⟩:=Option.isSome_iff_exists.1 z7
     have fz7:=uo hz7
     try simp only [go_sem,n1,n2,n3,n4,z2,z3,gz5,z5,gz6,hz6,gz7] at hz7
     all_goals
     try simp only [go_sem,z2,z3,gz5,z5,gz6,hz6,gz7] at fz7
     rcases AD h with ⟨z8,h⟩ | ⟨z8,h⟩
     all_goals
     try simp only [go_sem,n1,n2,n3,n4,z2,z3,gz5,z5,gz6,hz6,gz7,hz7] at z8
     all_goals
     obtain rfl:=AB h
     refine ⟨0,fun L hL => ?_⟩
     simp only [go_sem,z2,z3,lz3,xz3,fz4,gz5,z5,lz5,xz5,gz6,hz6,fz6,gz7,hz7,fz7,z8]
    ·rcases DA gz7 with gz7a | ⟨gz7a,gz7b⟩
     ·try simp only [go_sem,n1,n2,n3,n4,z2,z3,gz5,z5,gz6,hz6] at gz7a
      all_goals
      (simp_all)
     ·have gz7an:=Ha gz7a
      have gz7ann:=DT gz7an
      try simp only [go_sem,n1,n2,n3,n4,z2,z3,gz5,z5,gz6,hz6] at gz7ann
      all_goals
      try simp only [go_sem,n1,n2,n3,n4,z2,z3,gz5,z5,gz6,hz6,gz7ann] at gz7b
      all_goals
      rcases AD h with ⟨z8,h⟩ | ⟨z8,h⟩
      ·try simp only [go_sem,n1,n2,n3,n4,z2,z3,gz5,z5,gz6,hz6,gz7ann,gz7b] at z8
       all_goals
       (simp_all)
      ·try simp only [go_sem,n1,n2,n3,n4,z2,z3,gz5,z5,gz6,hz6,gz7ann,gz7b] at z8
       all_goals
       obtain rfl:=AB h
       refine ⟨0,fun L hL => ?_⟩
       simp only [go_sem,z2,z3,lz3,xz3,fz4,gz5,z5,lz5,xz5,gz6,hz6,fz6,gz7ann,gz7b,z8]
   ·rcases DA gz6 with gz6a | ⟨gz6a,gz6b⟩
    ·try simp only [go_sem,n1,n2,n3,n4,z2,z3,gz5,z5] at gz6a
     all_goals
     (simp_all)
    ·have gz6an:=Ha gz6a
     have gz6ann:=DT gz6an
     try simp only [go_sem,n1,n2,n3,n4,z2,z3,gz5,z5] at gz6ann
     all_goals
     try simp only [go_sem,n1,n2,n3,n4,z2,z3,gz5,z5,gz6ann] at gz6b
     all_goals
     obtain ⟨z7,h⟩:=AF h
     rcases Ab z7 with ⟨gz7,z7⟩ | gz7
     ·try simp only [go_sem,n1,n2,n3,n4,z2,z3,gz5,z5,gz6ann,gz6b] at gz7
      all_goals
      obtain ⟨y_7,hz7⟩:=Option.isSome_iff_exists.1 z7
      have fz7:=uo hz7
      try simp only [go_sem,n1,n2,n3,n4,z2,z3,gz5,z5,gz6ann,gz6b,gz7] at hz7
      all_goals
      try simp only [go_sem,z2,z3,gz5,z5,gz6ann,gz6b,gz7] at fz7
      rcases AD h with ⟨z8,h⟩ | ⟨z8,h⟩
      all_goals
      try simp only [go_sem,n1,n2,n3,n4,z2,z3,gz5,z5,gz6ann,gz6b,gz7,hz7] at z8
      all_goals
      obtain rfl:=AB h
      refine ⟨0,fun L hL => ?_⟩
      simp only [go_sem,z2,z3,lz3,xz3,fz4,gz5,z5,lz5,xz5,gz6ann,gz6b,gz7,hz7,fz7,z8]
     ·rcases DA gz7 with gz7a | ⟨gz7a,gz7b⟩
      ·try simp only [go_sem,n1,n2,n3,n4,z2,z3,gz5,z5,gz6ann,gz6b] at gz7a
       all_goals
       (simp_all)
      ·have gz7an:=Ha gz7a
       have gz7ann:=DT gz7an
       try simp only [go_sem,n1,n2,n3,n4,z2,z3,gz5,z5,gz6ann,gz6b] at gz7ann
       all_goals
       try simp only [go_sem,n1,n2,n3,n4,z2,z3,gz5,z5,gz6ann,gz6b,gz7ann] at gz7b
       all_goals
       rcases AD h with ⟨z8,h⟩ | ⟨z8,h⟩
       ·try simp only [go_sem,n1,n2,n3,n4,z2,z3,gz5,z5,gz6ann,gz6b,gz7ann,gz7b] at z8
        all_goals
        (simp_all)
       ·try simp only [go_sem,n1,n2,n3,n4,z2,z3,gz5,z5,gz6ann,gz6b,gz7ann,gz7b] at z8
        all_goals
        obtain rfl:=AB h
        refine ⟨0,fun L hL => ?_⟩
        simp only [go_sem,z2,z3,lz3,xz3,fz4,gz5,z5,lz5,xz5,gz6ann,gz6b,gz7ann,gz7b,z8]
  ·rcases DA gz5 with gz5a | ⟨gz5a,gz5b⟩
   ·have gz5an:=DT gz5a
    have gz5ann:=Ha gz5an
    try simp only [go_sem,n1,n2,n3,n4,z2,z3] at gz5ann
    all_goals
    obtain ⟨z6,h⟩:=AF h
    obtain ⟨z7,h⟩:=AF h
    rcases AD h with ⟨z8,h⟩ | ⟨z8,h⟩
    ·try simp only [go_sem,n1,n2,n3,n4,z2,z3,gz5ann] at z8
     all_goals
     obtain rfl:=AB h
     refine ⟨0,fun L hL => ?_⟩
     simp only [go_sem,z2,z3,lz3,xz3,fz4,gz5ann,z8]
    ·try simp only [go_sem,n1,n2,n3,n4,z2,z3,gz5ann] at z8
     all_goals
     (simp_all)
   ·have gz5an:=Ha gz5a
    have gz5ann:=DT gz5an
    try simp only [go_sem,n1,n2,n3,n4,z2,z3] at gz5ann
    all_goals
    try simp only [go_sem,n1,n2,n3,n4,z2,z3,gz5ann] at gz5b
    all_goals
    obtain ⟨z6,h⟩:=AF h
    obtain ⟨z7,h⟩:=AF h
    rcases AD h with ⟨z8,h⟩ | ⟨z8,h⟩
    ·try simp only [go_sem,n1,n2,n3,n4,z2,z3,gz5ann,gz5b] at z8
     all_goals
     (simp_all)
    ·try simp only [go_sem,n1,n2,n3,n4,z2,z3,gz5ann,gz5b] at z8
     all_goals
     obtain rfl:=AB h
     refine ⟨0,fun L hL => ?_⟩
     simp only [go_sem,z2,z3,lz3,xz3,fz4,gz5ann,gz5b,z8]
 ·try simp only [go_sem,n1,n2,n3,n4] at z2
  all_goals
  obtain rfl:=AB h
  refine ⟨0,fun L hL => ?_⟩
  simp only [go_sem,z2]
set_option maxHeartbeats 64000000 in
attribute [local go_sem] wa Wk WG UP UO UN in
theorem AIK {list:List Star} {most:Int} {y_:Bool} (h:BT list most = some y_):oW.F [.sl 5 (List.map Al list),.int .i64 most,.fn (.func 75) [] [],.fn (.func 76) [] []] = ⟨true,.bool y_,[.any,.any,.any,.any]⟩:=by
 refine Ay rfl ?_
 dsimp only [BT] at h
 rcases AD h with ⟨z1,h⟩ | ⟨z1,h⟩
 ·try simp only [go_sem,n1,n2,n3,n4] at z1
  all_goals
  obtain rfl:=AB h
  refine ⟨0,fun L hL => ?_⟩
  simp only [go_sem,z1]
 ·try simp only [go_sem,n1,n2,n3,n4] at z1
  all_goals
  obtain ⟨y_9,z9,h⟩:=AC h
  obtain ⟨Lz9,ez9⟩:=Dn z9
  rcases y_9 with y_9a | y_9b
  all_goals
  dsimp only at h
  obtain rfl:=AB h
  refine ⟨Lz9,fun L hL => ?_⟩
  have ez9:=ez9 L (by omega)
  try simp only [go_sem,z1] at ez9
  simp only [go_sem,z1,ez9]
def ACI:List Nat:=[0,2]
def ACJ:CI:=⟨1,2,.seq (.region false [ VO 1 2 (.mov (.c (.bool false)))]) (.seq (.region false [ PM 3 0,PO 4 (.call 74 [(.s 0),(I6 60),(.c (.fn (.func 75) [] [])),(.c (.fn (.func 76) [] []))]),VS 1 2 0]) (.ret)),[.t 1]⟩
noncomputable def AEt:List (Nat × Ax):=[(74,oW)]
theorem rc:AR AEt 74 = some oW:=rfl
noncomputable def oV:Ax:=Di AEt ACJ [.bor]
theorem s_52:AU Tryz.prog 33 oV:=AM _ rfl (AG s_51 AP) (by kernel_rfl:Af Tryz.prog 33 ACJ ACI = true)
theorem M_52:oV.modes = [.bor]:=rfl
theorem AJW:oV.flat = true:=rfl
attribute [go_sem] M_52 AJW rc
theorem AIJ {list:List Star} {y_:Bool} (h:Dx list = some y_):oV.F [.sl 5 (List.map Al list)] = ⟨true,.bool y_,[.any]⟩:=by
 refine Ay rfl ?_
 dsimp only [Dx] at h
 obtain ⟨y_1,z1,h⟩:=AC h
 have fz1:=AIK z1
 try simp only [go_sem] at fz1
 obtain rfl:=AB h
 refine ⟨0,fun L hL => ?_⟩
 simp only [go_sem,ACJ,fz1]
def ABE:List Nat:=[0,1,2]
def wY:CI:=⟨1,3,.seq (.region false [ VO 1 1 (.box (.v 0)),VO 2 2 (.mov (.c (.bool false)))]) (.seq (.region false [ PO 3 (.fldAddr 0 (.v 1)),PO 4 (.load false 1 (.s 0)),PO 5 (.call 117 [(.s 0)]),PO 6 (.mov (.s 0)),⟨.push,7,(some ((.s 0),true)),.fldAddr 1 (.v 1)⟩,⟨.push,8,(some ((.s 1),true)),.load false 1 (.s 0)⟩,⟨.push,9,(some ((.s 2),true)),.call 35 [(.s 0),(.c (.int .i64 (-2000))),(I6 2000)]⟩,PO 10 (.pick (.s 3) (.s 0) (.c (.bool false))),VS 2 2 0]) (.ret)),[.t 2]⟩
noncomputable def zy:List (Nat × Ax):=[(117,Ys),(35,Mb)]
theorem lG:AR zy 117 = some Ys:=rfl
theorem rZ:AR zy 35 = some Mb:=rfl
noncomputable def oU:Ax:=Di zy wY [.bor]
theorem s_53:AU Tryz.prog 78 oU:=AM _ rfl (AG AAO (AG gJ AP)) (by kernel_rfl:Af Tryz.prog 78 wY ABE = true)
theorem M_53:oU.modes = [.bor]:=rfl
theorem AJV:oU.flat = true:=rfl
attribute [go_sem] M_53 AJV lG rZ
theorem AII {x:Observer} {y_:Bool} (h:GO x = some y_):oU.F [AX x] = ⟨true,.bool y_,[.any]⟩:=by
 refine Ay rfl ?_
 dsimp only [GO] at h
 obtain ⟨y_1,z1,h⟩:=AC h
 have fz1:=fk z1
 try simp only [go_sem] at fz1
 obtain ⟨z2,h⟩:=AF h
 rcases Ab z2 with ⟨gz2,z2⟩ | gz2
 ·try simp only [go_sem,n1,n2,n3,n4] at gz2
  all_goals
  obtain ⟨y_2,hz2⟩:=Option.isSome_iff_exists.1 z2
  have fz2:=RY hz2
  try simp only [go_sem,n1,n2,n3,n4,gz2] at hz2
  all_goals
  try simp only [go_sem,gz2] at fz2
  obtain rfl:=AB h
  refine ⟨0,fun L hL => ?_⟩
  simp only [go_sem,wY,fz1,gz2,hz2,fz2]
 ·try simp only [go_sem,n1,n2,n3,n4] at gz2
  all_goals
  obtain rfl:=AB h
  refine ⟨0,fun L hL => ?_⟩
  simp only [go_sem,wY,fz1,gz2]
def ABC:List Nat:=[0,1,2]
def ABD:CI:=⟨1,3,.seq (.region false [ VO 1 1 (.box (.v 0)),VO 2 2 (.mov (.c (.str [])))]) (.seq (.region false [ PO 3 (.fldAddr 0 (.v 1)),PO 4 (.load false 1 (.s 0)),VS 2 2 0]) (.ret)),[.t 2]⟩
noncomputable def t_54:List (Nat × Ax):=[]
noncomputable def oT:Ax:=Di t_54 ABD [.bor]
theorem s_54:AU Tryz.prog 79 oT:=AM _ rfl AP (by kernel_rfl:Af Tryz.prog 79 ABD ABC = true)
theorem M_54:oT.modes = [.bor]:=rfl
theorem AJU:oT.flat = true:=rfl
attribute [go_sem] M_54 AJU
theorem um {x:Observer} {y_:(List UInt8)} (h:DH x = some y_):oT.F [AX x] = ⟨true,.str y_,[.any]⟩:=by
 refine Ay rfl ?_
 dsimp only [DH] at h
 obtain rfl:=AB h
 refine ⟨0,fun L hL => ?_⟩
 simp only [go_sem,ABD]
def bf:IR:=.seq (.region false [ VO 10 18 (.bin false .lss (.v 9) (.v 8))]) (.seq (.cond (.v 10) (.skip) (.exit 0)) (.seq (.block 1 (.seq (.region false [ PM 19 9,PO 20 (.ixAddr 2 (.v 7) (.v 9)),PO 21 (.load true 2 (.s 0)),VO 6 10 (.alloc (.agg [.str [],.int .i64 (0)])),VS 5 9 2,⟨.no,0,none,.store 2 (.v 6) (.s 0)⟩]) (.anyo 21 [ SO 0 22 (.mov (.v 2)),SO 1 23 (.load true 2 (.v 6)),SO 2 24 (.pur (.callv (.s 0) [(.s 1)])),SO 3 25 (.un .not (.s 2)),SO 4 26 (.mov (.s 3)),⟨.slot 5,27,(some ((.s 4),false)),.mov (.v 5)⟩,⟨.slot 6,28,(some ((.s 4),false)),.bin false .gtr
 (.s 5) (I6 0)⟩,⟨.slot 7,29,(some ((.s 4),false)),.mov (.s 6)⟩,⟨.slot 8,30,(some ((.s 7),true)),.mov (.v 3)⟩,⟨.slot 9,31,(some ((.s 7),true)),.mov (.v 0)⟩,⟨.slot 10,32,(some ((.s 7),true)),.mov (.v 5)⟩,⟨.slot 11,33,(some ((.s 7),true)),.bin false .sub (.s 10) (I6 1)⟩,⟨.slot 12,34,(some ((.s 7),true)),.ixAddr 2 (.s 9) (.s 11)⟩,⟨.slot 13,35,(some ((.s 7),true)),.load true 2 (.s 12)⟩,⟨.slot 14,36,(some ((.s 7),true)),.callv (.s 8) [(.s 13)]⟩,⟨.slot 15,37,(some ((.s 7),true)),.mov (.v 3)⟩,⟨.slot 16,38,(some ((.s 7),true)),.load true 2 (.v 6)⟩,
 ⟨.slot 17,39,(some ((.s 7),true)),.callv (.s 15) [(.s 16)]⟩,⟨.slot 18,40,(some ((.s 7),true)),.bin false .geq (.s 14) (.s 17)⟩,⟨.slot 19,41,(some ((.s 4),false)),.pick (.s 7) (.s 18) (.c (.bool false))⟩,SO 20 42 (.pick (.s 4) (.c (.bool true)) (.s 19))] [] (.cond (.s 20) (.seq (.region false [ VO 4 8 (.mov (.c (.bool false)))]) (.ret)) (.skip))))) (.region false [ PO 43 (.bin false .add (.v 9) (I6 1)),VS 9 17 0])))
def UM:List Bool:=[true,false,true,true,false,false,false,true,true,true,false]
def UL:List Bool:=[false,false,false,false,false,false,false,false,false,false,false]
def UK:List Bool:=[false,false,false,false,true,false,false,false,false,false,false]
def ABF:List Nat:=[0,1,2,3,8,9,10,15,16,17,18]
def wZ:CI:=⟨4,11,.seq (.region false [ VO 4 8 (.mov (.c (.bool false)))]) (.seq (.test false [ PM 11 0,PO 12 (.len false (.s 0)),PM 13 1,PO 14 (.bin false .gtr (.s 1) (.s 0))] (.s 0) (.seq (.region false [ VO 4 8 (.mov (.c (.bool false)))]) (.ret)) (.skip)) (.seq (.seq (.region false [ VO 7 15 (.mov (.v 0)),VO 8 16 (.len false (.v 7)),VO 9 17 (.mov (I6 0))]) (.block 0 (.loop UM UL UK bf))) (.seq (.region false [ VO 4 8 (.mov (.c (.bool true)))]) (.ret)))),[.t 4]⟩
noncomputable def vV:List (Nat × Ax):=[(78,oU),(79,oT)]
theorem rY:AR vV 78 = some oU:=rfl
theorem rX:AR vV 79 = some oT:=rfl
noncomputable def oS:Ax:=Di vV wZ [.bor,.bor,.bor,.bor]
theorem s_55:AU Tryz.prog 77 oS:=AM _ rfl (AG s_53 (AG s_54 AP)) (by kernel_rfl:Af Tryz.prog 77 wZ ABF = true)
theorem M_55:oS.modes = [.bor,.bor,.bor,.bor]:=rfl
theorem AJT:oS.flat = true:=rfl
attribute [go_sem] M_55 AJT rY rX
def Wj (list:List Observer) (t15:List Observer) (t16:Int):Int → St
 | t17 => ⟨[.sl 2 (List.map AX list),.any,.fn (.func 78) [] [],.fn (.func 79) [] [],.any,.any,.any,.sl 2 (List.map AX t15),.int .i64 t16,.int .i64 t17,.any],[],[],true⟩
def WF (list:List Observer) (t15:List Observer) (t16:Int):(Unit ⊕ Bool) → EB
 | .inl y => (.exit 0,⟨[.any,.any,.any,.any,.any,.any,.any,.any,.any,.any,.any],[],[],true⟩)
 | .inr y => (.ret,⟨[.any,.any,.any,.any,.bool y,.any,.any,.any,.any,.any,.any],[],[],true⟩)
set_option maxHeartbeats 64000000 in
attribute [local go_sem] wZ Wj WF bf UM UL UK in
theorem Cr {list:List Observer} {t15:List Observer} {t16:Int} {sgm_:Int} {rho_:Unit ⊕ Bool} (h:AL (AY list t15 t16) sgm_ = some rho_):∃ L0,∀ L,L0 ≤ L → Bk (Az (AR vV) L bf) UM UL UK L (Wj list t15 t16 sgm_) = WF list t15 t16 rho_:=by
 refine As (E:=Wj list t15 t16) (R:=WF list t15 t16) (fun y => by first | (intro c; cases c) | (rcases y with y | y <;> (intro c; cases c)) | (rcases y with y | y | y <;> (intro c; cases c))) ?_ h
 clear h
 intro t17 o_ h
 dsimp only [AY] at h
 rcases AD h with ⟨z2,h⟩ | ⟨z2,h⟩
 ·try simp only [go_sem,n1,n2,n3,n4] at z2
  all_goals
  obtain ⟨z3,h⟩:=AF h
  have lz3:=Au z3
  have xz3:=AK AX t15 lz3
  try simp only [go_sem] at lz3
  try simp only [go_sem] at xz3
  try simp only [go_sem,n1,n2,n3,n4,z2] at z3
  all_goals
  obtain ⟨y_4,z4,h⟩:=AC h
  have fz4:=AII z4
  try simp only [go_sem,z2,z3] at fz4
  obtain ⟨z5,h⟩:=AF h
  rcases Ab z5 with ⟨gz5,z5⟩ | gz5
  ·try simp only [go_sem,n1,n2,n3,n4,z2,z3] at gz5
   all_goals
   have lz5:=Au z5
   have xz5:=AK AX list lz5
   try simp only [go_sem] at lz5
   try simp only [go_sem] at xz5
   try simp only [go_sem,n1,n2,n3,n4,z2,z3,gz5] at z5
   all_goals
   obtain ⟨z6,h⟩:=AF h
   rcases Ab z6 with ⟨gz6,z6⟩ | gz6
   ·try simp only [go_sem,n1,n2,n3,n4,z2,z3,gz5,z5] at gz6
    all_goals
    obtain ⟨y_6,hz6⟩:=Option.isSome_iff_exists.1 z6
    have fz6:=um hz6
    try simp only [go_sem,n1,n2,n3,n4,z2,z3,gz5,z5,gz6] at hz6
    all_goals
    try simp only [go_sem,z2,z3,gz5,z5,gz6] at fz6
    obtain ⟨z7,h⟩:=AF h
    rcases Ab z7 with ⟨gz7,z7⟩ | gz7
    ·try simp only [go_sem,n1,n2,n3,n4,z2,z3,gz5,z5,gz6,hz6] at gz7
     all_goals
     obtain ⟨y_7,hz7⟩:=Option.isSome_iff_exists.1 z7
     have fz7:=um hz7
     try simp only [go_sem,n1,n2,n3,n4,z2,z3,gz5,z5,gz6,hz6,gz7] at hz7
     all_goals
     try simp only [go_sem,z2,z3,gz5,z5,gz6,hz6,gz7] at fz7
     rcases AD h with ⟨z8,h⟩ | ⟨z8,h⟩
     all_goals
     try simp only [go_sem,n1,n2,n3,n4,z2,z3,gz5,z5,gz6,hz6,gz7,hz7] at z8
     all_goals
     obtain rfl:=AB h
     refine ⟨0,fun L hL => ?_⟩
     simp only [go_sem,z2,z3,lz3,xz3,fz4,gz5,z5,lz5,xz5,gz6,hz6,fz6,gz7,hz7,fz7,z8]
    ·rcases DA gz7 with gz7a | ⟨gz7a,gz7b⟩
     ·try simp only [go_sem,n1,n2,n3,n4,z2,z3,gz5,z5,gz6,hz6] at gz7a
      all_goals
      (simp_all)
     ·have gz7an:=Ha gz7a
      have gz7ann:=DT gz7an
      try simp only [go_sem,n1,n2,n3,n4,z2,z3,gz5,z5,gz6,hz6] at gz7ann
      all_goals
      try simp only [go_sem,n1,n2,n3,n4,z2,z3,gz5,z5,gz6,hz6,gz7ann] at gz7b
      all_goals
      rcases AD h with ⟨z8,h⟩ | ⟨z8,h⟩
      ·try simp only [go_sem,n1,n2,n3,n4,z2,z3,gz5,z5,gz6,hz6,gz7ann,gz7b] at z8
       all_goals
       (simp_all)
      ·try simp only [go_sem,n1,n2,n3,n4,z2,z3,gz5,z5,gz6,hz6,gz7ann,gz7b] at z8
       all_goals
       obtain rfl:=AB h
       refine ⟨0,fun L hL => ?_⟩
       simp only [go_sem,z2,z3,lz3,xz3,fz4,gz5,z5,lz5,xz5,gz6,hz6,fz6,gz7ann,gz7b,z8]
   ·rcases DA gz6 with gz6a | ⟨gz6a,gz6b⟩
    ·try simp only [go_sem,n1,n2,n3,n4,z2,z3,gz5,z5] at gz6a
     all_goals
     (simp_all)
    ·have gz6an:=Ha gz6a
     have gz6ann:=DT gz6an
     try simp only [go_sem,n1,n2,n3,n4,z2,z3,gz5,z5] at gz6ann
     all_goals
     try simp only [go_sem,n1,n2,n3,n4,z2,z3,gz5,z5,gz6ann] at gz6b
     all_goals
     obtain ⟨z7,h⟩:=AF h
     rcases Ab z7 with ⟨gz7,z7⟩ | gz7
     ·try simp only [go_sem,n1,n2,n3,n4,z2,z3,gz5,z5,gz6ann,gz6b] at gz7
      all_goals
      obtain ⟨y_7,hz7⟩:=Option.isSome_iff_exists.1 z7
      have fz7:=um hz7
      try simp only [go_sem,n1,n2,n3,n4,z2,z3,gz5,z5,gz6ann,gz6b,gz7] at hz7
      all_goals
      try simp only [go_sem,z2,z3,gz5,z5,gz6ann,gz6b,gz7] at fz7
      rcases AD h with ⟨z8,h⟩ | ⟨z8,h⟩
      all_goals
      try simp only [go_sem,n1,n2,n3,n4,z2,z3,gz5,z5,gz6ann,gz6b,gz7,hz7] at z8
      all_goals
      obtain rfl:=AB h
      refine ⟨0,fun L hL => ?_⟩
      simp only [go_sem,z2,z3,lz3,xz3,fz4,gz5,z5,lz5,xz5,gz6ann,gz6b,gz7,hz7,fz7,z8]
     ·rcases DA gz7 with gz7a | ⟨gz7a,gz7b⟩
      ·try simp only [go_sem,n1,n2,n3,n4,z2,z3,gz5,z5,gz6ann,gz6b] at gz7a
       all_goals
       (simp_all)
      ·have gz7an:=Ha gz7a
       have gz7ann:=DT gz7an
       try simp only [go_sem,n1,n2,n3,n4,z2,z3,gz5,z5,gz6ann,gz6b] at gz7ann
       all_goals
       try simp only [go_sem,n1,n2,n3,n4,z2,z3,gz5,z5,gz6ann,gz6b,gz7ann] at gz7b
       all_goals
       rcases AD h with ⟨z8,h⟩ | ⟨z8,h⟩
       ·try simp only [go_sem,n1,n2,n3,n4,z2,z3,gz5,z5,gz6ann,gz6b,gz7ann,gz7b] at z8
        all_goals
        (simp_all)
       ·try simp only [go_sem,n1,n2,n3,n4,z2,z3,gz5,z5,gz6ann,gz6b,gz7ann,gz7b] at z8
        all_goals
        obtain rfl:=AB h
        refine ⟨0,fun L hL => ?_⟩
        simp only [go_sem,z2,z3,lz3,xz3,fz4,gz5,z5,lz5,xz5,gz6ann,gz6b,gz7ann,gz7b,z8]
  ·rcases DA gz5 with gz5a | ⟨gz5a,gz5b⟩
   ·have gz5an:=DT gz5a
    have gz5ann:=Ha gz5an
    try simp only [go_sem,n1,n2,n3,n4,z2,z3] at gz5ann
    all_goals
    obtain ⟨z6,h⟩:=AF h
    obtain ⟨z7,h⟩:=AF h
    rcases AD h with ⟨z8,h⟩ | ⟨z8,h⟩
    ·try simp only [go_sem,n1,n2,n3,n4,z2,z3,gz5ann] at z8
     all_goals
     obtain rfl:=AB h
     refine ⟨0,fun L hL => ?_⟩
     simp only [go_sem,z2,z3,lz3,xz3,fz4,gz5ann,z8]
    ·try simp only [go_sem,n1,n2,n3,n4,z2,z3,gz5ann] at z8
     all_goals
     (simp_all)
   ·have gz5an:=Ha gz5a
    have gz5ann:=DT gz5an
    try simp only [go_sem,n1,n2,n3,n4,z2,z3] at gz5ann
    all_goals
    try simp only [go_sem,n1,n2,n3,n4,z2,z3,gz5ann] at gz5b
    all_goals
    obtain ⟨z6,h⟩:=AF h
    obtain ⟨z7,h⟩:=AF h
    rcases AD h with ⟨z8,h⟩ | ⟨z8,h⟩
    ·try simp only [go_sem,n1,n2,n3,n4,z2,z3,gz5ann,gz5b] at z8
     all_goals
     (simp_all)
    ·try simp only [go_sem,n1,n2,n3,n4,z2,z3,gz5ann,gz5b] at z8
     all_goals
     obtain rfl:=AB h
     refine ⟨0,fun L hL => ?_⟩
     simp only [go_sem,z2,z3,lz3,xz3,fz4,gz5ann,gz5b,z8]
 ·try simp only [go_sem,n1,n2,n3,n4] at z2
  all_goals
  obtain rfl:=AB h
  refine ⟨0,fun L hL => ?_⟩
  simp only [go_sem,z2]
set_option maxHeartbeats 64000000 in
attribute [local go_sem] wZ Wj WF UM UL UK in
theorem AIH {list:List Observer} {most:Int} {y_:Bool} (h:BD list most = some y_):oS.F [.sl 2 (List.map AX list),.int .i64 most,.fn (.func 78) [] [],.fn (.func 79) [] []] = ⟨true,.bool y_,[.any,.any,.any,.any]⟩:=by
 refine Ay rfl ?_
 dsimp only [BD] at h
 rcases AD h with ⟨z1,h⟩ | ⟨z1,h⟩
 ·try simp only [go_sem,n1,n2,n3,n4] at z1
  all_goals
  obtain rfl:=AB h
  refine ⟨0,fun L hL => ?_⟩
  simp only [go_sem,z1]
 ·try simp only [go_sem,n1,n2,n3,n4] at z1
  all_goals
  obtain ⟨y_9,z9,h⟩:=AC h
  obtain ⟨Lz9,ez9⟩:=Cr z9
  rcases y_9 with y_9a | y_9b
  all_goals
  dsimp only at h
  obtain rfl:=AB h
  refine ⟨Lz9,fun L hL => ?_⟩
  have ez9:=ez9 L (by omega)
  try simp only [go_sem,z1] at ez9
  simp only [go_sem,z1,ez9]
def ACG:List Nat:=[0,2]
def ACH:CI:=⟨1,2,.seq (.region false [ VO 1 2 (.mov (.c (.bool false)))]) (.seq (.region false [ PM 3 0,PO 4 (.call 77 [(.s 0),(I6 40),(.c (.fn (.func 78) [] [])),(.c (.fn (.func 79) [] []))]),VS 1 2 0]) (.ret)),[.t 1]⟩
noncomputable def AEs:List (Nat × Ax):=[(77,oS)]
theorem rW:AR AEs 77 = some oS:=rfl
noncomputable def oR:Ax:=Di AEs ACH [.bor]
theorem s_56:AU Tryz.prog 34 oR:=AM _ rfl (AG s_55 AP) (by kernel_rfl:Af Tryz.prog 34 ACH ACG = true)
theorem M_56:oR.modes = [.bor]:=rfl
theorem AJS:oR.flat = true:=rfl
attribute [go_sem] M_56 AJS rW
theorem AIG {list:List Observer} {y_:Bool} (h:DR list = some y_):oR.F [.sl 2 (List.map AX list)] = ⟨true,.bool y_,[.any]⟩:=by
 refine Ay rfl ?_
 dsimp only [DR] at h
 obtain ⟨y_1,z1,h⟩:=AC h
 have fz1:=AIH z1
 try simp only [go_sem] at fz1
 obtain rfl:=AB h
 refine ⟨0,fun L hL => ?_⟩
 simp only [go_sem,ACH,fz1]
def AAy:List Nat:=[0,1,2,3]
def AAz:CI:=⟨2,4,.seq (.region false [ VO 2 2 (.box (.v 0)),VO 3 3 (.mov (.c (.bool false)))]) (.seq (.region false [ PO 4 (.fldAddr 0 (.v 2)),PO 5 (.load false 1 (.s 0)),PO 6 (.fldAddr 1 (.v 1)),PO 7 (.load false 1 (.s 0)),PO 8 (.bin false .eql (.s 2) (.s 0)),VS 3 3 0]) (.ret)),[.t 3]⟩
noncomputable def t_57:List (Nat × Ax):=[]
noncomputable def oQ:Ax:=Di t_57 AAz [.bor,.bor]
theorem s_57:AU Tryz.prog 82 oQ:=AM _ rfl AP (by kernel_rfl:Af Tryz.prog 82 AAz AAy = true)
theorem M_57:oQ.modes = [.bor,.bor]:=rfl
theorem AJR:oQ.flat = true:=rfl
attribute [go_sem] M_57 AJR
theorem AIF {x:Star} {t1:AA} {y_:Bool} (h:Hp x t1 = some y_):oQ.F [Al x,.ptr 5 [AE t1] 0 0] = ⟨true,.bool y_,[.any,.any]⟩:=by
 refine Ay rfl ?_
 dsimp only [Hp] at h
 obtain rfl:=AB h
 refine ⟨0,fun L hL => ?_⟩
 simp only [go_sem,AAz]
def Xh:IR:=.seq (.region false [ VO 6 9 (.bin false .lss (.v 5) (.v 4))]) (.seq (.cond (.v 6) (.skip) (.exit 0)) (.seq (.block 1 (.seq (.region false [ PM 10 5,VS 3 5 0]) (.test false [ PM 11 1,PM 12 0,PM 13 3,PO 14 (.ixAddr 5 (.s 1) (.s 0)),PO 15 (.load true 5 (.s 0)),PO 16 (.callv (.s 4) [(.s 0)])] (.s 0) (.seq (.region false [ PM 17 3,VS 2 4 0]) (.ret)) (.skip)))) (.region false [ PO 18 (.bin false .add (.v 5) (I6 1)),VS 5 8 0])))
def QQ:List Bool:=[true,true,false,false,true,true,false]
def QP:List Bool:=[false,false,false,false,false,false,false]
def QO:List Bool:=[false,false,true,false,false,false,false]
def xY:List Nat:=[0,1,4,5,7,8,9]
def jc:CI:=⟨2,7,.seq (.region false [ VO 2 4 (.mov (I6 0))]) (.seq (.seq (.region false [ PM 6 0,VO 4 7 (.len false (.s 0)),VO 5 8 (.mov (I6 0))]) (.block 0 (.loop QQ QP QO Xh))) (.seq (.region false [ VO 2 4 (.mov (.c (.int .i64 (-1))))]) (.ret))),[.t 2]⟩
noncomputable def zx:List (Nat × Ax):=[(82,oQ)]
theorem rV:AR zx 82 = some oQ:=rfl
noncomputable def oP:Ax:=Di zx jc [.bor,.bor]
theorem s_58:AU Tryz.prog 122 oP:=AM _ rfl (AG s_57 AP) (by kernel_rfl:Af Tryz.prog 122 jc xY = true)
theorem M_58:oP.modes = [.bor,.bor]:=rfl
theorem AJQ:oP.flat = true:=rfl
attribute [go_sem] M_58 AJQ rV
def Wi (s_:List Star) (c:AA) (t7:Int):Int → St
 | t8 => ⟨[.sl 5 (List.map Al s_),.fn (.func 82) [] [.ptr 5 [AE c] 0 0],.any,.any,.int .i64 t7,.int .i64 t8,.any],[],[],true⟩
def WE (s_:List Star) (c:AA) (t7:Int):(Unit ⊕ Int) → EB
 | .inl y => (.exit 0,⟨[.any,.any,.any,.any,.any,.any,.any],[],[],true⟩)
 | .inr y => (.ret,⟨[.any,.any,.int .i64 y,.any,.any,.any,.any],[],[],true⟩)
attribute [local go_sem] jc Wi WE Xh QQ QP QO in
theorem DY {s_:List Star} {c:AA} {t7:Int} {sgm_:Int} {rho_:Unit ⊕ Int} (h:AL (Ao s_ c t7) sgm_ = some rho_):∃ L0,∀ L,L0 ≤ L → Bk (Az (AR zx) L Xh) QQ QP QO L (Wi s_ c t7 sgm_) = WE s_ c t7 rho_:=by
 refine As (E:=Wi s_ c t7) (R:=WE s_ c t7) (fun y => by first | (intro c; cases c) | (rcases y with y | y <;> (intro c; cases c)) | (rcases y with y | y | y <;> (intro c; cases c))) ?_ h
 clear h
 intro t8 o_ h
 dsimp only [Ao] at h
 rcases AD h with ⟨z1,h⟩ | ⟨z1,h⟩
 ·try simp only [go_sem,n1,n2,n3,n4] at z1
  all_goals
  obtain ⟨z2,h⟩:=AF h
  have lz2:=Au z2
  have xz2:=AK Al s_ lz2
  try simp only [go_sem] at lz2
  try simp only [go_sem] at xz2
  try simp only [go_sem,n1,n2,n3,n4,z1] at z2
  all_goals
  obtain ⟨y_3,z3,h⟩:=AC h
  have fz3:=AIF z3
  try simp only [go_sem,z1,z2] at fz3
  rcases AD h with ⟨z4,h⟩ | ⟨z4,h⟩
  all_goals
  try simp only [go_sem,n1,n2,n3,n4,z1,z2] at z4
  all_goals
  obtain rfl:=AB h
  refine ⟨0,fun L hL => ?_⟩
  simp only [go_sem,z1,z2,lz2,xz2,fz3,z4]
 ·try simp only [go_sem,n1,n2,n3,n4] at z1
  all_goals
  obtain rfl:=AB h
  refine ⟨0,fun L hL => ?_⟩
  simp only [go_sem,z1]
attribute [local go_sem] Wi WE QQ QP QO jc in
theorem AIE {s_:List Star} {f_c0:AA} {y_:Int} (h:BM s_ f_c0 = some y_):oP.F [.sl 5 (List.map Al s_),.fn (.func 82) [] [.ptr 5 [AE f_c0] 0 0]] = ⟨true,.int .i64 y_,[.any,.any]⟩:=by
 refine Ay rfl ?_
 dsimp only [BM] at h
 obtain ⟨y_5,z5,h⟩:=AC h
 obtain ⟨Lz5,ez5⟩:=DY z5
 rcases y_5 with y_5a | y_5b
 all_goals
 dsimp only at h
 obtain rfl:=AB h
 refine ⟨Lz5,fun L hL => ?_⟩
 have ez5:=ez5 L (by omega)
 try simp only [go_sem] at ez5
 simp only [go_sem,ez5]
def ABA:List Nat:=[0,1,4,5,6]
def ABB:CI:=⟨2,5,.seq (.region false [ VO 2 4 (.mov (I6 0)),VO 3 5 (.mov (I6 0))]) (.seq (.seq (.region false [ PM 7 0,PM 8 1,PO 9 (.call 122 [(.s 1),(.s 0)]),VS 4 6 0]) (.test false [ PM 10 4,PO 11 (.bin false .geq (.s 0) (I6 0))] (.s 0) (.seq (.region false [ PM 12 4,VS 2 4 0,VO 3 5 (.mov (I6 0))]) (.ret)) (.skip))) (.seq (.region false [ VO 2 4 (.mov (I6 0)),VO 3 5 (.mov (I6 3))]) (.ret))),[.t 2,.t 3]⟩
noncomputable def AEr:List (Nat × Ax):=[(122,oP)]
theorem lF:AR AEr 122 = some oP:=rfl
noncomputable def yN:Ax:=Di AEr ABB [.bor,.bor]
theorem s_59:AU Tryz.prog 81 yN:=AM _ rfl (AG s_58 AP) (by kernel_rfl:Af Tryz.prog 81 ABB ABA = true)
theorem AGo:yN.modes = [.bor,.bor]:=rfl
theorem AJP:yN.flat = true:=rfl
attribute [go_sem] AGo AJP lF
theorem AID {list:List Star} {wanted_c0:AA} {y_:Int × Int} (h:BZ list wanted_c0 = some y_):yN.F [.sl 5 (List.map Al list),.fn (.func 82) [] [.ptr 5 [AE wanted_c0] 0 0]] = ⟨true,.tup [.int .i64 y_.1,.int .i64 y_.2],[.any,.any]⟩:=by
 refine Ay rfl ?_
 dsimp only [BZ] at h
 obtain ⟨y_1,z1,h⟩:=AC h
 have fz1:=AIE z1
 try simp only [go_sem] at fz1
 rcases AD h with ⟨z2,h⟩ | ⟨z2,h⟩
 all_goals
 try simp only [go_sem,n1,n2,n3,n4] at z2
 all_goals
 obtain rfl:=AB h
 refine ⟨0,fun L hL => ?_⟩
 simp only [go_sem,ABB,fz1,z2]
def xW:List Nat:=[0,1,2,3]
def tU:CI:=⟨2,4,.seq (.region false [ VO 2 2 (.box (.v 0)),VO 3 3 (.mov (.c (.bool false)))]) (.seq (.region false [ PO 4 (.fldAddr 0 (.v 2)),PO 5 (.load false 1 (.s 0)),PO 6 (.load false 1 (.v 1)),PO 7 (.bin false .eql (.s 1) (.s 0)),VS 3 3 0]) (.ret)),[.t 3]⟩
noncomputable def t_60:List (Nat × Ax):=[]
noncomputable def oO:Ax:=Di t_60 tU [.bor,.bor]
theorem s_60:AU Tryz.prog 124 oO:=AM _ rfl AP (by kernel_rfl:Af Tryz.prog 124 tU xW = true)
theorem M_60:oO.modes = [.bor,.bor]:=rfl
theorem AJO:oO.flat = true:=rfl
attribute [go_sem] M_60 AJO
theorem AIB {x:Observer} {t1:List UInt8} {y_:Bool} (h:FD x t1 = some y_):oO.F [AX x,.ptr 1 [.str t1] 0 0] = ⟨true,.bool y_,[.any,.any]⟩:=by
 refine Ay rfl ?_
 dsimp only [FD] at h
 obtain rfl:=AB h
 refine ⟨0,fun L hL => ?_⟩
 simp only [go_sem,tU]
def Xc:IR:=.seq (.region false [ VO 6 9 (.bin false .lss (.v 5) (.v 4))]) (.seq (.cond (.v 6) (.skip) (.exit 0)) (.seq (.block 1 (.seq (.region false [ PM 10 5,VS 3 5 0]) (.test false [ PM 11 1,PM 12 0,PM 13 3,PO 14 (.ixAddr 2 (.s 1) (.s 0)),PO 15 (.load true 2 (.s 0)),PO 16 (.callv (.s 4) [(.s 0)])] (.s 0) (.seq (.region false [ PM 17 3,VS 2 4 0]) (.ret)) (.skip)))) (.region false [ PO 18 (.bin false .add (.v 5) (I6 1)),VS 5 8 0])))
def QB:List Bool:=[true,true,false,false,true,true,false]
def QA:List Bool:=[false,false,false,false,false,false,false]
def Pz:List Bool:=[false,false,true,false,false,false,false]
def xE:List Nat:=[0,1,4,5,7,8,9]
def jV:CI:=⟨2,7,.seq (.region false [ VO 2 4 (.mov (I6 0))]) (.seq (.seq (.region false [ PM 6 0,VO 4 7 (.len false (.s 0)),VO 5 8 (.mov (I6 0))]) (.block 0 (.loop QB QA Pz Xc))) (.seq (.region false [ VO 2 4 (.mov (.c (.int .i64 (-1))))]) (.ret))),[.t 2]⟩
noncomputable def zw:List (Nat × Ax):=[(124,oO)]
theorem lE:AR zw 124 = some oO:=rfl
noncomputable def oN:Ax:=Di zw jV [.bor,.bor]
theorem s_61:AU Tryz.prog 147 oN:=AM _ rfl (AG s_60 AP) (by kernel_rfl:Af Tryz.prog 147 jV xE = true)
theorem M_61:oN.modes = [.bor,.bor]:=rfl
theorem AJN:oN.flat = true:=rfl
attribute [go_sem] M_61 AJN lE
def Wh (s_:List Observer) (c:List UInt8) (t7:Int):Int → St
 | t8 => ⟨[.sl 2 (List.map AX s_),.fn (.func 124) [] [.ptr 1 [.str c] 0 0],.any,.any,.int .i64 t7,.int .i64 t8,.any],[],[],true⟩
def WD (s_:List Observer) (c:List UInt8) (t7:Int):(Unit ⊕ Int) → EB
 | .inl y => (.exit 0,⟨[.any,.any,.any,.any,.any,.any,.any],[],[],true⟩)
 | .inr y => (.ret,⟨[.any,.any,.int .i64 y,.any,.any,.any,.any],[],[],true⟩)
attribute [local go_sem] jV Wh WD Xc QB QA Pz in
theorem CW {s_:List Observer} {c:List UInt8} {t7:Int} {sgm_:Int} {rho_:Unit ⊕ Int} (h:AL (AZ s_ c t7) sgm_ = some rho_):∃ L0,∀ L,L0 ≤ L → Bk (Az (AR zw) L Xc) QB QA Pz L (Wh s_ c t7 sgm_) = WD s_ c t7 rho_:=by
 refine As (E:=Wh s_ c t7) (R:=WD s_ c t7) (fun y => by first | (intro c; cases c) | (rcases y with y | y <;> (intro c; cases c)) | (rcases y with y | y | y <;> (intro c; cases c))) ?_ h
 clear h
 intro t8 o_ h
 dsimp only [AZ] at h
 rcases AD h with ⟨z1,h⟩ | ⟨z1,h⟩
 ·try simp only [go_sem,n1,n2,n3,n4] at z1
  all_goals
  obtain ⟨z2,h⟩:=AF h
  have lz2:=Au z2
  have xz2:=AK AX s_ lz2
  try simp only [go_sem] at lz2
  try simp only [go_sem] at xz2
  try simp only [go_sem,n1,n2,n3,n4,z1] at z2
  all_goals
  obtain ⟨y_3,z3,h⟩:=AC h
  have fz3:=AIB z3
  try simp only [go_sem,z1,z2] at fz3
  rcases AD h with ⟨z4,h⟩ | ⟨z4,h⟩
  all_goals
  try simp only [go_sem,n1,n2,n3,n4,z1,z2] at z4
  all_goals
  obtain rfl:=AB h
  refine ⟨0,fun L hL => ?_⟩
  simp only [go_sem,z1,z2,lz2,xz2,fz3,z4]
 ·try simp only [go_sem,n1,n2,n3,n4] at z1
  all_goals
  obtain rfl:=AB h
  refine ⟨0,fun L hL => ?_⟩
  simp only [go_sem,z1]
attribute [local go_sem] Wh WD QB QA Pz jV in
theorem AIA {s_:List Observer} {f_c0:List UInt8} {y_:Int} (h:Aw s_ f_c0 = some y_):oN.F [.sl 2 (List.map AX s_),.fn (.func 124) [] [.ptr 1 [.str f_c0] 0 0]] = ⟨true,.int .i64 y_,[.any,.any]⟩:=by
 refine Ay rfl ?_
 dsimp only [Aw] at h
 obtain ⟨y_5,z5,h⟩:=AC h
 obtain ⟨Lz5,ez5⟩:=CW z5
 rcases y_5 with y_5a | y_5b
 all_goals
 dsimp only at h
 obtain rfl:=AB h
 refine ⟨Lz5,fun L hL => ?_⟩
 have ez5:=ez5 L (by omega)
 try simp only [go_sem] at ez5
 simp only [go_sem,ez5]
def xX:List Nat:=[0,1,4,5,6]
def tV:CI:=⟨2,5,.seq (.region false [ VO 2 4 (.mov (I6 0)),VO 3 5 (.mov (I6 0))]) (.seq (.seq (.region false [ PM 7 0,PM 8 1,PO 9 (.call 147 [(.s 1),(.s 0)]),VS 4 6 0]) (.test false [ PM 10 4,PO 11 (.bin false .geq (.s 0) (I6 0))] (.s 0) (.seq (.region false [ PM 12 4,VS 2 4 0,VO 3 5 (.mov (I6 0))]) (.ret)) (.skip))) (.seq (.region false [ VO 2 4 (.mov (I6 0)),VO 3 5 (.mov (I6 3))]) (.ret))),[.t 2,.t 3]⟩
noncomputable def AEq:List (Nat × Ax):=[(147,oN)]
theorem lD:AR AEq 147 = some oN:=rfl
noncomputable def oM:Ax:=Di AEq tV [.bor,.bor]
theorem s_62:AU Tryz.prog 123 oM:=AM _ rfl (AG s_61 AP) (by kernel_rfl:Af Tryz.prog 123 tV xX = true)
theorem M_62:oM.modes = [.bor,.bor]:=rfl
theorem AJM:oM.flat = true:=rfl
attribute [go_sem] M_62 AJM lD
theorem AHz {list:List Observer} {wanted_c0:List UInt8} {y_:Int × Int} (h:BU list wanted_c0 = some y_):oM.F [.sl 2 (List.map AX list),.fn (.func 124) [] [.ptr 1 [.str wanted_c0] 0 0]] = ⟨true,.tup [.int .i64 y_.1,.int .i64 y_.2],[.any,.any]⟩:=by
 refine Ay rfl ?_
 dsimp only [BU] at h
 obtain ⟨y_1,z1,h⟩:=AC h
 have fz1:=AIA z1
 try simp only [go_sem] at fz1
 rcases AD h with ⟨z2,h⟩ | ⟨z2,h⟩
 all_goals
 try simp only [go_sem,n1,n2,n3,n4] at z2
 all_goals
 obtain rfl:=AB h
 refine ⟨0,fun L hL => ?_⟩
 simp only [go_sem,tV,fz1,z2]
def AAw:List Nat:=[0,1,3,4,5]
def AAx:CI:=⟨2,5,.seq (.region false [ VO 2 3 (.box (.v 1)),VO 3 4 (.mov (I6 0)),VO 4 5 (.mov (I6 0))]) (.seq (.region false [ PM 6 0,PO 7 (.mkFn (.func 124) [] [(.v 2)]),PO 8 (.call 123 [(.s 1),(.s 0)]),PO 9 (.ext (.s 0) 0),PO 10 (.ext (.s 1) 1),VS 3 4 1,VS 4 5 0]) (.ret)),[.t 3,.t 4]⟩
noncomputable def AEp:List (Nat × Ax):=[(123,oM)]
theorem lC:AR AEp 123 = some oM:=rfl
noncomputable def yM:Ax:=Di AEp AAx [.bor,.bor]
theorem s_63:AU Tryz.prog 83 yM:=AM _ rfl (AG s_62 AP) (by kernel_rfl:Af Tryz.prog 83 AAx AAw = true)
theorem AGn:yM.modes = [.bor,.bor]:=rfl
theorem AJL:yM.flat = true:=rfl
attribute [go_sem] AGn AJL lC
theorem AHy {list:List Observer} {name:List UInt8} {y_:Int × Int} (h:FE list name = some y_):yM.F [.sl 2 (List.map AX list),.str name] = ⟨true,.tup [.int .i64 y_.1,.int .i64 y_.2],[.any,.any]⟩:=by
 refine Ay rfl ?_
 dsimp only [FE] at h
 obtain ⟨y_1,z1,h⟩:=AC h
 have fz1:=AHz z1
 try simp only [go_sem] at fz1
 obtain rfl:=AB h
 refine ⟨0,fun L hL => ?_⟩
 simp only [go_sem,AAx,fz1]
def AAs:List Nat:=[0,1,2,3]
def AAt:CI:=⟨2,4,.seq (.region false [ VO 2 2 (.box (.v 0)),VO 3 3 (.mov (.c (.bool false)))]) (.seq (.region false [ PO 4 (.fldAddr 1 (.v 2)),PO 5 (.load false 1 (.s 0)),PO 6 (.fldAddr 1 (.v 1)),PO 7 (.load false 1 (.s 0)),PO 8 (.bin false .eql (.s 2) (.s 0)),PO 9 (.mov (.s 0)),⟨.push,10,(some ((.s 0),true)),.fldAddr 2 (.v 2)⟩,⟨.push,11,(some ((.s 1),true)),.load false 1 (.s 0)⟩,⟨.push,12,(some ((.s 2),true)),.fldAddr 2 (.v 1)⟩,⟨.push,13,(some ((.s 3),true)),.load false 1 (.s 0)⟩,⟨.push,14,(some ((.s 4),true)),.bin false .eql (.s 2) (.s 0)⟩,PO 15 (.pick
 (.s 5) (.s 0) (.c (.bool false))),PO 16 (.mov (.s 0)),⟨.push,17,(some ((.s 0),true)),.fldAddr 0 (.v 1)⟩,⟨.push,18,(some ((.s 1),true)),.load false 1 (.s 0)⟩,⟨.push,19,(some ((.s 2),true)),.fldAddr 0 (.v 2)⟩,⟨.push,20,(some ((.s 3),true)),.load false 1 (.s 0)⟩,⟨.push,21,(some ((.s 4),true)),.bin false .sub (.s 2) (.s 0)⟩,⟨.push,22,(some ((.s 5),true)),.bin false .lss (.s 0) (I6 100)⟩,PO 23 (.pick (.s 6) (.s 0) (.c (.bool false))),VS 3 3 0]) (.ret)),[.t 3]⟩
noncomputable def t_64:List (Nat × Ax):=[]
noncomputable def oL:Ax:=Di t_64 AAt [.bor,.bor]
theorem s_64:AU Tryz.prog 85 oL:=AM _ rfl AP (by kernel_rfl:Af Tryz.prog 85 AAt AAs = true)
theorem M_64:oL.modes = [.bor,.bor]:=rfl
theorem AJK:oL.flat = true:=rfl
attribute [go_sem] M_64 AJK
theorem AHx {x:AA} {t1:AA} {y_:Bool} (h:Ho x t1 = some y_):oL.F [AE x,.ptr 5 [AE t1] 0 0] = ⟨true,.bool y_,[.any,.any]⟩:=by
 refine Ay rfl ?_
 dsimp only [Ho] at h
 obtain rfl:=AB h
 refine ⟨0,fun L hL => ?_⟩
 simp only [go_sem,AAt]
def Xg:IR:=.seq (.region false [ VO 6 9 (.bin false .lss (.v 5) (.v 4))]) (.seq (.cond (.v 6) (.skip) (.exit 0)) (.seq (.block 1 (.seq (.region false [ PM 10 5,VS 3 5 0]) (.test false [ PM 11 1,PM 12 0,PM 13 3,PO 14 (.ixAddr 5 (.s 1) (.s 0)),PO 15 (.load true 5 (.s 0)),PO 16 (.callv (.s 4) [(.s 0)])] (.s 0) (.seq (.region false [ PM 17 3,VS 2 4 0]) (.ret)) (.skip)))) (.region false [ PO 18 (.bin false .add (.v 5) (I6 1)),VS 5 8 0])))
def QN:List Bool:=[true,true,false,false,true,true,false]
def QM:List Bool:=[false,false,false,false,false,false,false]
def QL:List Bool:=[false,false,true,false,false,false,false]
def xV:List Nat:=[0,1,4,5,7,8,9]
def jb:CI:=⟨2,7,.seq (.region false [ VO 2 4 (.mov (I6 0))]) (.seq (.seq (.region false [ PM 6 0,VO 4 7 (.len false (.s 0)),VO 5 8 (.mov (I6 0))]) (.block 0 (.loop QN QM QL Xg))) (.seq (.region false [ VO 2 4 (.mov (.c (.int .i64 (-1))))]) (.ret))),[.t 2]⟩
noncomputable def zu:List (Nat × Ax):=[(85,oL)]
theorem rU:AR zu 85 = some oL:=rfl
noncomputable def oK:Ax:=Di zu jb [.bor,.bor]
theorem s_65:AU Tryz.prog 125 oK:=AM _ rfl (AG s_64 AP) (by kernel_rfl:Af Tryz.prog 125 jb xV = true)
theorem M_65:oK.modes = [.bor,.bor]:=rfl
theorem AJJ:oK.flat = true:=rfl
attribute [go_sem] M_65 AJJ rU
def Wg (s_:List AA) (c:AA) (t7:Int):Int → St
 | t8 => ⟨[.sl 5 (List.map AE s_),.fn (.func 85) [] [.ptr 5 [AE c] 0 0],.any,.any,.int .i64 t7,.int .i64 t8,.any],[],[],true⟩
def WC (s_:List AA) (c:AA) (t7:Int):(Unit ⊕ Int) → EB
 | .inl y => (.exit 0,⟨[.any,.any,.any,.any,.any,.any,.any],[],[],true⟩)
 | .inr y => (.ret,⟨[.any,.any,.int .i64 y,.any,.any,.any,.any],[],[],true⟩)
attribute [local go_sem] jb Wg WC Xg QN QM QL in
theorem Cq {s_:List AA} {c:AA} {t7:Int} {sgm_:Int} {rho_:Unit ⊕ Int} (h:AL (Ad s_ c t7) sgm_ = some rho_):∃ L0,∀ L,L0 ≤ L → Bk (Az (AR zu) L Xg) QN QM QL L (Wg s_ c t7 sgm_) = WC s_ c t7 rho_:=by
 refine As (E:=Wg s_ c t7) (R:=WC s_ c t7) (fun y => by first | (intro c; cases c) | (rcases y with y | y <;> (intro c; cases c)) | (rcases y with y | y | y <;> (intro c; cases c))) ?_ h
 clear h
 intro t8 o_ h
 dsimp only [Ad] at h
 rcases AD h with ⟨z1,h⟩ | ⟨z1,h⟩
 ·try simp only [go_sem,n1,n2,n3,n4] at z1
  all_goals
  obtain ⟨z2,h⟩:=AF h
  have lz2:=Au z2
  have xz2:=AK AE s_ lz2
  try simp only [go_sem] at lz2
  try simp only [go_sem] at xz2
  try simp only [go_sem,n1,n2,n3,n4,z1] at z2
  all_goals
  obtain ⟨y_3,z3,h⟩:=AC h
  have fz3:=AHx z3
  try simp only [go_sem,z1,z2] at fz3
  rcases AD h with ⟨z4,h⟩ | ⟨z4,h⟩
  all_goals
  try simp only [go_sem,n1,n2,n3,n4,z1,z2] at z4
  all_goals
  obtain rfl:=AB h
  refine ⟨0,fun L hL => ?_⟩
  simp only [go_sem,z1,z2,lz2,xz2,fz3,z4]
 ·try simp only [go_sem,n1,n2,n3,n4] at z1
  all_goals
  obtain rfl:=AB h
  refine ⟨0,fun L hL => ?_⟩
  simp only [go_sem,z1]
attribute [local go_sem] Wg WC QN QM QL jb in
theorem AHw {s_:List AA} {f_c0:AA} {y_:Int} (h:BC s_ f_c0 = some y_):oK.F [.sl 5 (List.map AE s_),.fn (.func 85) [] [.ptr 5 [AE f_c0] 0 0]] = ⟨true,.int .i64 y_,[.any,.any]⟩:=by
 refine Ay rfl ?_
 dsimp only [BC] at h
 obtain ⟨y_5,z5,h⟩:=AC h
 obtain ⟨Lz5,ez5⟩:=Cq z5
 rcases y_5 with y_5a | y_5b
 all_goals
 dsimp only at h
 obtain rfl:=AB h
 refine ⟨Lz5,fun L hL => ?_⟩
 have ez5:=ez5 L (by omega)
 try simp only [go_sem] at ez5
 simp only [go_sem,ez5]
def AAu:List Nat:=[0,1,4]
def AAv:CI:=⟨2,3,.seq (.region false [ VO 2 4 (.mov (.c (.bool false)))]) (.seq (.region false [ PM 5 0,PM 6 1,PO 7 (.call 125 [(.s 1),(.s 0)]),PO 8 (.bin false .geq (.s 0) (I6 0)),VS 2 4 0]) (.ret)),[.t 2]⟩
noncomputable def AEo:List (Nat × Ax):=[(125,oK)]
theorem lB:AR AEo 125 = some oK:=rfl
noncomputable def yL:Ax:=Di AEo AAv [.bor,.bor]
theorem s_66:AU Tryz.prog 84 yL:=AM _ rfl (AG s_65 AP) (by kernel_rfl:Af Tryz.prog 84 AAv AAu = true)
theorem AGm:yL.modes = [.bor,.bor]:=rfl
theorem AJI:yL.flat = true:=rfl
attribute [go_sem] AGm AJI lB
theorem AHv {s_:List AA} {f_c0:AA} {y_:Bool} (h:Aq s_ f_c0 = some y_):yL.F [.sl 5 (List.map AE s_),.fn (.func 85) [] [.ptr 5 [AE f_c0] 0 0]] = ⟨true,.bool y_,[.any,.any]⟩:=by
 refine Ay rfl ?_
 dsimp only [Aq] at h
 obtain ⟨y_1,z1,h⟩:=AC h
 have fz1:=AHw z1
 try simp only [go_sem] at fz1
 obtain rfl:=AB h
 refine ⟨0,fun L hL => ?_⟩
 simp only [go_sem,AAv,fz1]
end Go.Proofs.YtfaenphcgfocnaaGreatDoor
