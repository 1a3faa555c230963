/- Codes and contracts of the functions that RU reaches, and that their typed forms say what they do. No condition. -/
import Derived.Test.YtelkmhdolnjnpaaGreatDoorRUKa
import Derived.Test.YtelkmhdolnjnpaaGreatDoorRows
import Derived.WalkKit
namespace Go.Proofs.YtelkmhdolnjnpaaGreatDoor
open Go Go.RowKit
set_option linter.unusedVariables false
set_option linter.unusedSimpArgs false
set_option maxRecDepth 10000

def ir20_b0 : IR := .seq (.test false [ PM 69 12, PM 70 11, PO 71 (.len false (.s 0)), PO 72 (.bin false .lss (.s 2) (.s 0))] (.s 0) (.skip) (.exit 0)) (.seq (.block 1 (.anyo 8 [ SO 0 75 (.mov (.v 11)), SO 1 76 (.mov (.v 12)), SO 2 77 (.ixAddr 1 (.s 0) (.s 1)), SO 3 78 (.load false 1 (.s 2)), SO 4 79 (.mov (.v 3)), SO 5 80 (.ixAddr 1 (.s 4) (I6 5)), SO 6 81 (.load false 1 (.s 5)), SO 7 82 (.bin false .eql (.s 3) (.s 6))] [] (.cond (.s 7) (.region false [ PM 83 12, VS 10 11 0]) (.skip)))) (.region false [ PM 73 12, PO 74 (.bin false .add (.s 0) (I6 1)), VS 12 13 0]))
def ir20_k0 : List Bool := [false, true, false, true, true, true, true, true, true, true, true, true, true, false]
def ir20_o0 : List Bool := [false, true, false, true, true, true, true, true, true, true, true, false, false, false]
def ir20_r0 : List Bool := [false, true, true, false, false, false, false, false, false, false, false, false, false, false]
def ir20_v : List Nat := [0, 2, 3, 4, 5, 6, 7, 8, 9, 10, 11, 12, 13, 14]
def ir20 : AFn := ⟨1, 14, .seq (.region false [ VO 1 2 (.alloc (.agg [.str [], .int .i64 (0), .int .i64 (0), .int .i64 (0), .int .i64 (0), .int .i64 (0)])), VO 2 3 (.mov (.c (.bool false)))]) (.seq (.region false [ PM 15 0, PO 16 (.call 62 [(.s 0), (.c (.int .u8 (32)))]), VS 3 4 0]) (.seq (.anyo 34 [ SO 0 17 (.mov (.v 3)), SO 1 18 (.len false (.s 0)), SO 2 19 (.bin false .neq (.s 1) (I6 6)), SO 3 20 (.mov (.s 2)), ⟨.slot 4, 21, (some ((.s 3), false)), .mov (.v 3)⟩, ⟨.slot 5, 22, (some ((.s 3), false)), .ixAddr 1 (.s 4) (I6 1)⟩, ⟨.slot 6, 23, (some ((.s 3), false)), .load false 1 (.s 5)⟩, ⟨.slot
 7, 24, (some ((.s 3), false)), .bin false .neq (.s 6) (.c (.str [97, 109, 112]))⟩, SO 8 25 (.pick (.s 3) (.c (.bool true)) (.s 7)), SO 9 26 (.mov (.s 8)), ⟨.slot 10, 27, (some ((.s 9), false)), .mov (.v 3)⟩, ⟨.slot 11, 28, (some ((.s 9), false)), .ixAddr 1 (.s 10) (I6 3)⟩, ⟨.slot 12, 29, (some ((.s 9), false)), .load false 1 (.s 11)⟩, ⟨.slot 13, 30, (some ((.s 9), false)), .bin false .neq (.s 12) (.c (.str [112, 101, 114, 105, 111, 100]))⟩, SO 14 31 (.pick (.s 9) (.c (.bool true)) (.s 13)), SO 15 32 (.mov (.s 14)), ⟨.slot 16, 33, (some ((.s 15), false)), .mov (.v 3)⟩, ⟨.slot 17, 34, (some ((.s
 15), false)), .ixAddr 1 (.s 16) (I6 0)⟩, ⟨.slot 18, 35, (some ((.s 15), false)), .load false 1 (.s 17)⟩, ⟨.slot 19, 36, (some ((.s 15), false)), .len true (.s 18)⟩, ⟨.slot 20, 37, (some ((.s 15), false)), .bin false .lss (.s 19) (I6 1)⟩, SO 21 38 (.pick (.s 15) (.c (.bool true)) (.s 20)), SO 22 39 (.mov (.s 21)), ⟨.slot 23, 40, (some ((.s 22), false)), .mov (.v 3)⟩, ⟨.slot 24, 41, (some ((.s 22), false)), .ixAddr 1 (.s 23) (I6 0)⟩, ⟨.slot 25, 42, (some ((.s 22), false)), .load false 1 (.s 24)⟩, ⟨.slot 26, 43, (some ((.s 22), false)), .mov (.v 3)⟩, ⟨.slot 27, 44, (some ((.s 22), false)),
 .ixAddr 1 (.s 26) (I6 0)⟩, ⟨.slot 28, 45, (some ((.s 22), false)), .load false 1 (.s 27)⟩, ⟨.slot 29, 46, (some ((.s 22), false)), .len true (.s 28)⟩, ⟨.slot 30, 47, (some ((.s 22), false)), .bin false .sub (.s 29) (I6 1)⟩, ⟨.slot 31, 48, (some ((.s 22), false)), .ixStr (.s 25) (.s 30)⟩, ⟨.slot 32, 49, (some ((.s 22), false)), .bin false .neq (.s 31) (.c (.int .u8 (58)))⟩, SO 33 50 (.pick (.s 22) (.c (.bool true)) (.s 32))] [] (.cond (.s 33) (.seq (.region false [ PO 51 (.build [.str [], .int .i64 (0), .int .i64 (0), .int .i64 (0), .int .i64 (0), .int .i64 (0)] []), ⟨.no, 0, none, .store 6 (.v
 1) (.s 0)⟩, VO 2 3 (.mov (.c (.bool false)))]) (.ret)) (.skip))) (.seq (.region false [ PM 53 3, PO 54 (.ixAddr 1 (.s 0) (I6 2)), PO 55 (.load false 1 (.s 0)), PO 56 (.call 63 [(.s 0)]), PO 52 (.mov (.s 0)), PO 57 (.ext (.s 0) 0), PO 58 (.ext (.s 1) 1), PO 59 (.ext (.s 2) 2), VS 4 5 2, VS 5 6 1, VS 6 7 0]) (.seq (.region false [ PM 61 3, PO 62 (.ixAddr 1 (.s 0) (I6 4)), PO 63 (.load false 1 (.s 0)), PO 64 (.call 63 [(.s 0)]), PO 60 (.mov (.s 0)), PO 65 (.ext (.s 0) 0), PO 66 (.ext (.s 1) 1), PO 67 (.ext (.s 2) 2), VS 7 8 2, VS 8 9 1, VS 9 10 0]) (.seq (.region false [ VO 10 11 (.mov (.c (.int
 .i64 (-1))))]) (.seq (.region false [ PO 68 (.call 64 []), VS 11 12 0]) (.seq (.seq (.region false [ VO 12 13 (.mov (I6 0))]) (.block 0 (.loop ir20_k0 ir20_o0 ir20_r0 ir20_b0))) (.seq (.anyo 15 [ SO 0 84 (.safe [14] (.mov (.v 3))), SO 1 85 (.safe [14] (.ixAddr 1 (.s 0) (I6 0))), SO 2 86 (.safe [14] (.load false 1 (.s 1))), SO 3 87 (.safe [14] (.mov (.v 3))), SO 4 88 (.safe [14] (.ixAddr 1 (.s 3) (I6 0))), SO 5 89 (.safe [14] (.load false 1 (.s 4))), SO 6 90 (.flat (.len true (.s 5))), SO 7 91 (.flat (.bin false .sub (.s 6) (I6 1))), SO 8 92 (.flat (.pur (.slice 0 (.s 2) none (some (.s 7))))),
 SO 9 93 (.flat (.mov (.v 4))), SO 10 94 (.flat (.mov (.v 5))), SO 11 95 (.flat (.mov (.v 7))), SO 12 96 (.flat (.mov (.v 8))), SO 13 97 (.flat (.mov (.v 10))), SO 14 98 (.safe [14] (.pur (.build [.str [], .int .i64 (0), .int .i64 (0), .int .i64 (0), .int .i64 (0), .int .i64 (0)] [(0, 1, (.s 8)), (1, 1, (.s 9)), (2, 1, (.s 10)), (3, 1, (.s 11)), (4, 1, (.s 12)), (5, 1, (.s 13))]))), VO 13 14 (.alloc (.agg [.str [], .int .i64 (0), .int .i64 (0), .int .i64 (0), .int .i64 (0), .int .i64 (0)])), ⟨.no, 0, none, .store 6 (.v 13) (.s 14)⟩] [] .skip) (.seq (.test false [ PM 99 6, PO 100 (.un .not (.s
 0)), PO 101 (.mov (.s 0)), ⟨.push, 102, (some ((.s 0), false)), .mov (.v 9)⟩, ⟨.push, 103, (some ((.s 1), false)), .un .not (.s 0)⟩, PO 104 (.pick (.s 2) (.c (.bool true)) (.s 0)), PO 105 (.mov (.s 0)), ⟨.push, 106, (some ((.s 0), false)), .call 41 [(.v 13)]⟩, ⟨.push, 107, (some ((.s 1), false)), .un .not (.s 0)⟩, PO 108 (.pick (.s 2) (.c (.bool true)) (.s 0))] (.s 0) (.seq (.region false [ PO 109 (.build [.str [], .int .i64 (0), .int .i64 (0), .int .i64 (0), .int .i64 (0), .int .i64 (0)] []), ⟨.no, 0, none, .store 6 (.v 1) (.s 0)⟩, VO 2 3 (.mov (.c (.bool false)))]) (.ret)) (.skip)) (.seq
 (.region false [ PO 110 (.load true 6 (.v 13)), ⟨.no, 0, none, .store 6 (.v 1) (.s 0)⟩, VO 2 3 (.mov (.c (.bool true)))]) (.ret))))))))))), [.cell true 6 1, .t 2]⟩
noncomputable def t_77 : List (Nat × Ctr) := [(62, c_74), (63, c_76), (64, c_70), (41, c_30)]
theorem lk_77_62 : look t_77 62 = some c_74 := rfl
theorem lk_77_63 : look t_77 63 = some c_76 := rfl
theorem lk_77_64 : look t_77 64 = some c_70 := rfl
theorem lk_77_41 : look t_77 41 = some c_30 := rfl
noncomputable def c_77 : Ctr := mkN t_77 ir20 [.bor]
theorem s_77 : Sound Tryz.prog 20 c_77 := mkN_sound _ (snd_cons s_74 (snd_cons s_76 (snd_cons s_70 (snd_cons s_30 snd_nil)))) (by kernel_rfl : chkFn Tryz.prog 20 ir20 ir20_v = true)
theorem M_77 : c_77.modes = [.bor] := rfl
theorem Fl_77 : c_77.flat = false := rfl
attribute [go_sem] M_77 Fl_77
attribute [go_sem] lk_77_62 lk_77_63 lk_77_64 lk_77_41
def E_77_l1 (t2 : Rule) (w : List (List UInt8)) (fromAmp : Int) (toAmp : Int) (one : Bool) (fromPer : Int) (toPer : Int) (two : Bool) (words : List (List UInt8)) : (Int × Int) → St
 | (shape, i) => ⟨[.any, .ref 3200000 0 0, .any, .own 3200032, .int .i64 fromAmp, .int .i64 toAmp, .bool one, .int .i64 fromPer, .int .i64 toPer, .bool two, .int .i64 shape, .own 3200064, .int .i64 i, .any], [], [(3200000, ⟨6, [Rule_av t2]⟩), (3200032, ⟨1, List.map AV.str w⟩), (3200064, ⟨1, List.map AV.str words⟩)], true⟩
def R_77_l1 (t2 : Rule) (w : List (List UInt8)) (fromAmp : Int) (toAmp : Int) (one : Bool) (fromPer : Int) (toPer : Int) (two : Bool) (words : List (List UInt8)) (y : Int) : Res := (.exit 0, ⟨[.any, .ref 3200000 0 0, .any, .own 3200032, .int .i64 fromAmp, .int .i64 toAmp, .bool one, .int .i64 fromPer, .int .i64 toPer, .bool two, .int .i64 y, .any, .any, .any], [], [(3200000, ⟨6, [Rule_av t2]⟩), (3200032, ⟨1, List.map AV.str w⟩)], true⟩)
theorem spec_ReadRule_l1_ex {t2 : Rule} {w : List (List UInt8)} {fromAmp : Int} {toAmp : Int} {one : Bool} {fromPer : Int} {toPer : Int} {two : Bool} {words : List (List UInt8)} {sgm_ : Int × Int} {rho_ : Int} (h : whileE (spec_ReadRule_l1 t2 w fromAmp toAmp one fromPer toPer two words) sgm_ = some rho_) : ∃ L0, ∀ L, L0 ≤ L → iter (exec (look t_77) L ir20_b0) ir20_k0 ir20_o0 ir20_r0 L (E_77_l1 t2 w fromAmp toAmp one fromPer toPer two words sgm_) = R_77_l1 t2 w fromAmp toAmp one fromPer toPer two words rho_ := by
 refine loop_ex (E := E_77_l1 t2 w fromAmp toAmp one fromPer toPer two words) (R := R_77_l1 t2 w fromAmp toAmp one fromPer toPer two words) (fun y => by first | (intro c; cases c) | (rcases y with y | y <;> (intro c; cases c)) | (rcases y with y | y | y <;> (intro c; cases c))) ?_ h
 clear h
 rintro ⟨shape, i⟩ o_ h
 dsimp only [spec_ReadRule_l1] at h
 rcases it_some h with ⟨z13, h⟩ | ⟨z13, h⟩
 ·try simp only [go_sem, n1, n2, n3, n4] at z13
  all_goals
  obtain ⟨z14, h⟩ := ck_some h
  have lz14 := ix_lt z14
  have xz14 := getD_mapD AV.str words lz14
  try simp only [go_sem] at lz14
  try simp only [go_sem] at xz14
  try simp only [go_sem, n1, n2, n3, n4, z13] at z14
  all_goals
  obtain ⟨z15, h⟩ := ck_some h
  have lz15 := ix_lt z15
  have xz15 := getD_mapD AV.str w lz15
  try simp only [go_sem] at lz15
  try simp only [go_sem] at xz15
  try simp only [go_sem, n1, n2, n3, n4, z13, z14] at z15
  all_goals
  rcases it_some h with ⟨z16, h⟩ | ⟨z16, h⟩
  ·try simp only [go_sem, n1, n2, n3, n4, z13, z14, z15] at z16
   all_goals
   obtain rfl := so_some h
   refine ⟨0, fun L hL => ?_⟩
   simp only [go_sem, ir20, E_77_l1, R_77_l1, ir20_b0, ir20_k0, ir20_o0, ir20_r0, z13, z14, lz14, xz14, z15, lz15, xz15, z16]
  ·try simp only [go_sem, n1, n2, n3, n4, z13, z14, z15] at z16
   all_goals
   obtain rfl := so_some h
   refine ⟨0, fun L hL => ?_⟩
   simp only [go_sem, ir20, E_77_l1, R_77_l1, ir20_b0, ir20_k0, ir20_o0, ir20_r0, z13, z14, lz14, xz14, z15, lz15, xz15, z16]
 ·try simp only [go_sem, n1, n2, n3, n4] at z13
  all_goals
  obtain rfl := so_some h
  refine ⟨0, fun L hL => ?_⟩
  simp only [go_sem, ir20, E_77_l1, R_77_l1, ir20_b0, ir20_k0, ir20_o0, ir20_r0, z13]

set_option maxHeartbeats 8000000 in
theorem Fs_77 {s_ : List UInt8} {y_ : Rule × Bool} (h : spec_ReadRule s_ = some y_) : c_77.F [.str s_] = ⟨true, .tup [Rule_av y_.1, .bool y_.2], [.any]⟩ := by
 refine mkN_E ?_
 dsimp only [spec_ReadRule] at h
 obtain ⟨y_1, z1, h⟩ := bd_some h
 have fz1 := Fs_74 z1
 try simp only [go_sem] at fz1
 obtain ⟨z2, h⟩ := ck_some h
 rcases or_split z2 with ⟨gz2, z2⟩ | gz2
 ·try simp only [go_sem, n1, n2, n3, n4] at gz2
  all_goals
  have lz2 := ix_lt z2
  have xz2 := getD_mapD AV.str y_1 lz2
  try simp only [go_sem] at lz2
  try simp only [go_sem] at xz2
  try simp only [go_sem, n1, n2, n3, n4, gz2] at z2
  all_goals
  obtain ⟨z3, h⟩ := ck_some h
  rcases or_split z3 with ⟨gz3, z3⟩ | gz3
  ·try simp only [go_sem, n1, n2, n3, n4, gz2, z2] at gz3
   all_goals
   have lz3 := ix_lt z3
   have xz3 := getD_mapD AV.str y_1 lz3
   try simp only [go_sem] at lz3
   try simp only [go_sem] at xz3
   try simp only [go_sem, n1, n2, n3, n4, gz2, z2, gz3] at z3
   all_goals
   obtain ⟨z4, h⟩ := ck_some h
   rcases or_split z4 with ⟨gz4, z4⟩ | gz4
   ·try simp only [go_sem, n1, n2, n3, n4, gz2, z2, gz3, z3] at gz4
    all_goals
    have lz4 := ix_lt z4
    have xz4 := getD_mapD AV.str y_1 lz4
    try simp only [go_sem] at lz4
    try simp only [go_sem] at xz4
    try simp only [go_sem, n1, n2, n3, n4, gz2, z2, gz3, z3, gz4] at z4
    all_goals
    obtain ⟨z5, h⟩ := ck_some h
    rcases or_split z5 with ⟨gz5, z5⟩ | gz5
    ·try simp only [go_sem, n1, n2, n3, n4, gz2, z2, gz3, z3, gz4, z4] at gz5
     all_goals
     have lz5 := ix_lt z5
     have xz5 := getD_mapD AV.str y_1 lz5
     try simp only [go_sem] at lz5
     try simp only [go_sem] at xz5
     try simp only [go_sem, n1, n2, n3, n4, gz2, z2, gz3, z3, gz4, z4, gz5] at z5
     all_goals
     obtain ⟨z6, h⟩ := ck_some h
     rcases or_split z6 with ⟨gz6, z6⟩ | gz6
     ·try simp only [go_sem, n1, n2, n3, n4, gz2, z2, gz3, z3, gz4, z4, gz5, z5] at gz6
      all_goals
      try simp only [go_sem, n1, n2, n3, n4, gz2, z2, gz3, z3, gz4, z4, gz5, z5, gz6] at z6
      all_goals
      rcases it_some h with ⟨z7, h⟩ | ⟨z7, h⟩
      ·try simp only [go_sem, n1, n2, n3, n4, gz2, z2, gz3, z3, gz4, z4, gz5, z5, gz6, z6] at z7
       all_goals
       obtain rfl := so_some h
       refine ⟨0, fun L hL => ?_⟩
       simp only [go_sem, ir20, E_77_l1, R_77_l1, ir20_k0, ir20_o0, ir20_r0, fz1, gz2, z2, lz2, xz2, gz3, z3, lz3, xz3, gz4, z4, lz4, xz4, gz5, z5, lz5, xz5, gz6, z6, z7]
      ·try simp only [go_sem, n1, n2, n3, n4, gz2, z2, gz3, z3, gz4, z4, gz5, z5, gz6, z6] at z7
       all_goals
       obtain ⟨z8, h⟩ := ck_some h
       have lz8 := ix_lt z8
       have xz8 := getD_mapD AV.str y_1 lz8
       try simp only [go_sem] at lz8
       try simp only [go_sem] at xz8
       try simp only [go_sem, n1, n2, n3, n4, gz2, z2, gz3, z3, gz4, z4, gz5, z5, gz6, z6, z7] at z8
       all_goals
       obtain ⟨y_9, z9, h⟩ := bd_some h
       have fz9 := Fs_76 z9
       try simp only [go_sem, gz2, z2, gz3, z3, gz4, z4, gz5, z5, gz6, z6, z7, z8] at fz9
       obtain ⟨z10, h⟩ := ck_some h
       have lz10 := ix_lt z10
       have xz10 := getD_mapD AV.str y_1 lz10
       try simp only [go_sem] at lz10
       try simp only [go_sem] at xz10
       try simp only [go_sem, n1, n2, n3, n4, gz2, z2, gz3, z3, gz4, z4, gz5, z5, gz6, z6, z7, z8] at z10
       all_goals
       obtain ⟨y_11, z11, h⟩ := bd_some h
       have fz11 := Fs_76 z11
       try simp only [go_sem, gz2, z2, gz3, z3, gz4, z4, gz5, z5, gz6, z6, z7, z8, z10] at fz11
       obtain ⟨y_12, z12, h⟩ := bd_some h
       have fz12 := Fs_70 z12
       try simp only [go_sem, gz2, z2, gz3, z3, gz4, z4, gz5, z5, gz6, z6, z7, z8, z10] at fz12
       obtain ⟨y_17, z17, h⟩ := bd_some h
       obtain ⟨Lz17, ez17⟩ := spec_ReadRule_l1_ex z17
       obtain ⟨z18, h⟩ := ck_some h
       have lz18 := ix_lt z18
       have xz18 := getD_mapD AV.str y_1 lz18
       try simp only [go_sem] at lz18
       try simp only [go_sem] at xz18
       try simp only [go_sem, n1, n2, n3, n4, gz2, z2, gz3, z3, gz4, z4, gz5, z5, gz6, z6, z7, z8, z10] at z18
       all_goals
       obtain ⟨z19, h⟩ := ck_some h
       try simp only [go_sem, n1, n2, n3, n4, gz2, z2, gz3, z3, gz4, z4, gz5, z5, gz6, z6, z7, z8, z10, z18] at z19
       all_goals
       obtain ⟨z20, h⟩ := ck_some h
       rcases or_split z20 with ⟨gz20, z20⟩ | gz20
       ·try simp only [go_sem, n1, n2, n3, n4, gz2, z2, gz3, z3, gz4, z4, gz5, z5, gz6, z6, z7, z8, z10, z18, z19] at gz20
        all_goals
        obtain ⟨y_20, hz20⟩ := Option.isSome_iff_exists.1 z20
        have fz20 := Fs_30 hz20
        try simp only [go_sem, n1, n2, n3, n4, gz2, z2, gz3, z3, gz4, z4, gz5, z5, gz6, z6, z7, z8, z10, z18, z19, gz20] at hz20
        all_goals
        try simp only [go_sem, gz2, z2, gz3, z3, gz4, z4, gz5, z5, gz6, z6, z7, z8, z10, z18, z19, gz20] at fz20
        rcases it_some h with ⟨z21, h⟩ | ⟨z21, h⟩
        ·try simp only [go_sem, n1, n2, n3, n4, gz2, z2, gz3, z3, gz4, z4, gz5, z5, gz6, z6, z7, z8, z10, z18, z19, gz20, hz20] at z21
         all_goals
         obtain rfl := so_some h
         refine ⟨Lz17, fun L hL => ?_⟩
         have ez17 := ez17 L (by omega)
         try simp only [go_sem, E_77_l1, R_77_l1, ir20_k0, ir20_o0, ir20_r0, gz2, z2, gz3, z3, gz4, z4, gz5, z5, gz6, z6, z7, z8, z10, z18, z19, gz20, hz20, z21] at ez17
         simp only [go_sem, ir20, E_77_l1, R_77_l1, ir20_k0, ir20_o0, ir20_r0, fz1, gz2, z2, lz2, xz2, gz3, z3, lz3, xz3, gz4, z4, lz4, xz4, gz5, z5, lz5, xz5, gz6, z6, z7, z8, lz8, xz8, fz9, z10, lz10, xz10, fz11, fz12, z18, lz18, xz18, z19, gz20, hz20, fz20, z21, ez17]
        ·try simp only [go_sem, n1, n2, n3, n4, gz2, z2, gz3, z3, gz4, z4, gz5, z5, gz6, z6, z7, z8, z10, z18, z19, gz20, hz20] at z21
         all_goals
         obtain rfl := so_some h
         refine ⟨Lz17, fun L hL => ?_⟩
         have ez17 := ez17 L (by omega)
         try simp only [go_sem, E_77_l1, R_77_l1, ir20_k0, ir20_o0, ir20_r0, gz2, z2, gz3, z3, gz4, z4, gz5, z5, gz6, z6, z7, z8, z10, z18, z19, gz20, hz20, z21] at ez17
         simp only [go_sem, ir20, E_77_l1, R_77_l1, ir20_k0, ir20_o0, ir20_r0, fz1, gz2, z2, lz2, xz2, gz3, z3, lz3, xz3, gz4, z4, lz4, xz4, gz5, z5, lz5, xz5, gz6, z6, z7, z8, lz8, xz8, fz9, z10, lz10, xz10, fz11, fz12, z18, lz18, xz18, z19, gz20, hz20, fz20, z21, ez17]
       ·have gz20n := no_f gz20
        rcases or_t gz20n with gz20na | ⟨gz20na, gz20nb⟩
        ·have gz20nan := no_t gz20na
         try simp only [go_sem, n1, n2, n3, n4, gz2, z2, gz3, z3, gz4, z4, gz5, z5, gz6, z6, z7, z8, z10, z18, z19] at gz20nan
         all_goals
         rcases it_some h with ⟨z21, h⟩ | ⟨z21, h⟩
         ·try simp only [go_sem, n1, n2, n3, n4, gz2, z2, gz3, z3, gz4, z4, gz5, z5, gz6, z6, z7, z8, z10, z18, z19, gz20nan] at z21
          all_goals
          obtain rfl := so_some h
          refine ⟨Lz17, fun L hL => ?_⟩
          have ez17 := ez17 L (by omega)
          try simp only [go_sem, E_77_l1, R_77_l1, ir20_k0, ir20_o0, ir20_r0, gz2, z2, gz3, z3, gz4, z4, gz5, z5, gz6, z6, z7, z8, z10, z18, z19, gz20nan, z21] at ez17
          simp only [go_sem, ir20, E_77_l1, R_77_l1, ir20_k0, ir20_o0, ir20_r0, fz1, gz2, z2, lz2, xz2, gz3, z3, lz3, xz3, gz4, z4, lz4, xz4, gz5, z5, lz5, xz5, gz6, z6, z7, z8, lz8, xz8, fz9, z10, lz10, xz10, fz11, fz12, z18, lz18, xz18, z19, gz20nan, z21, ez17]
         ·try simp only [go_sem, n1, n2, n3, n4, gz2, z2, gz3, z3, gz4, z4, gz5, z5, gz6, z6, z7, z8, z10, z18, z19, gz20nan] at z21
          all_goals
          (simp_all)
        ·have gz20nan := no_f gz20na
         have gz20nbn := no_t gz20nb
         try simp only [go_sem, n1, n2, n3, n4, gz2, z2, gz3, z3, gz4, z4, gz5, z5, gz6, z6, z7, z8, z10, z18, z19] at gz20nan
         all_goals
         try simp only [go_sem, n1, n2, n3, n4, gz2, z2, gz3, z3, gz4, z4, gz5, z5, gz6, z6, z7, z8, z10, z18, z19, gz20nan] at gz20nbn
         all_goals
         rcases it_some h with ⟨z21, h⟩ | ⟨z21, h⟩
         ·try simp only [go_sem, n1, n2, n3, n4, gz2, z2, gz3, z3, gz4, z4, gz5, z5, gz6, z6, z7, z8, z10, z18, z19, gz20nan, gz20nbn] at z21
          all_goals
          obtain rfl := so_some h
          refine ⟨Lz17, fun L hL => ?_⟩
          have ez17 := ez17 L (by omega)
          try simp only [go_sem, E_77_l1, R_77_l1, ir20_k0, ir20_o0, ir20_r0, gz2, z2, gz3, z3, gz4, z4, gz5, z5, gz6, z6, z7, z8, z10, z18, z19, gz20nan, gz20nbn, z21] at ez17
          simp only [go_sem, ir20, E_77_l1, R_77_l1, ir20_k0, ir20_o0, ir20_r0, fz1, gz2, z2, lz2, xz2, gz3, z3, lz3, xz3, gz4, z4, lz4, xz4, gz5, z5, lz5, xz5, gz6, z6, z7, z8, lz8, xz8, fz9, z10, lz10, xz10, fz11, fz12, z18, lz18, xz18, z19, gz20nan, gz20nbn, z21, ez17]
         ·try simp only [go_sem, n1, n2, n3, n4, gz2, z2, gz3, z3, gz4, z4, gz5, z5, gz6, z6, z7, z8, z10, z18, z19, gz20nan, gz20nbn] at z21
          all_goals
          (simp_all)
     ·have gz6n := no_f gz6
      rcases or_t gz6n with gz6na | ⟨gz6na, gz6nb⟩
      ·try simp only [go_sem, n1, n2, n3, n4, gz2, z2, gz3, z3, gz4, z4, gz5, z5] at gz6na
       all_goals
       (simp_all)
      ·obtain ⟨gz6naa, gz6nab⟩ := or_f gz6na
       obtain ⟨gz6naaa, gz6naab⟩ := or_f gz6naa
       have gz6naaan := no_f gz6naaa
       have gz6naabn := no_f gz6naab
       have gz6nabn := no_f gz6nab
       try simp only [go_sem, n1, n2, n3, n4, gz2, z2, gz3, z3, gz4, z4, gz5, z5] at gz6naaan
       all_goals
       try simp only [go_sem, n1, n2, n3, n4, gz2, z2, gz3, z3, gz4, z4, gz5, z5, gz6naaan] at gz6naabn
       all_goals
       try simp only [go_sem, n1, n2, n3, n4, gz2, z2, gz3, z3, gz4, z4, gz5, z5, gz6naaan, gz6naabn] at gz6nabn
       all_goals
       try simp only [go_sem, n1, n2, n3, n4, gz2, z2, gz3, z3, gz4, z4, gz5, z5, gz6naaan, gz6naabn, gz6nabn] at gz6nb
       all_goals
       rcases it_some h with ⟨z7, h⟩ | ⟨z7, h⟩
       ·try simp only [go_sem, n1, n2, n3, n4, gz2, z2, gz3, z3, gz4, z4, gz5, z5, gz6naaan, gz6naabn, gz6nabn, gz6nb] at z7
        all_goals
        obtain rfl := so_some h
        refine ⟨0, fun L hL => ?_⟩
        simp only [go_sem, ir20, E_77_l1, R_77_l1, ir20_k0, ir20_o0, ir20_r0, fz1, gz2, z2, lz2, xz2, gz3, z3, lz3, xz3, gz4, z4, lz4, xz4, gz5, z5, lz5, xz5, gz6naaan, gz6naabn, gz6nabn, gz6nb, z7]
       ·try simp only [go_sem, n1, n2, n3, n4, gz2, z2, gz3, z3, gz4, z4, gz5, z5, gz6naaan, gz6naabn, gz6nabn, gz6nb] at z7
        all_goals
        obtain ⟨z8, h⟩ := ck_some h
        have lz8 := ix_lt z8
        have xz8 := getD_mapD AV.str y_1 lz8
        try simp only [go_sem] at lz8
        try simp only [go_sem] at xz8
        try simp only [go_sem, n1, n2, n3, n4, gz2, z2, gz3, z3, gz4, z4, gz5, z5, gz6naaan, gz6naabn, gz6nabn, gz6nb, z7] at z8
        all_goals
        obtain ⟨y_9, z9, h⟩ := bd_some h
        have fz9 := Fs_76 z9
        try simp only [go_sem, gz2, z2, gz3, z3, gz4, z4, gz5, z5, gz6naaan, gz6naabn, gz6nabn, gz6nb, z7, z8] at fz9
        obtain ⟨z10, h⟩ := ck_some h
        have lz10 := ix_lt z10
        have xz10 := getD_mapD AV.str y_1 lz10
        try simp only [go_sem] at lz10
        try simp only [go_sem] at xz10
        try simp only [go_sem, n1, n2, n3, n4, gz2, z2, gz3, z3, gz4, z4, gz5, z5, gz6naaan, gz6naabn, gz6nabn, gz6nb, z7, z8] at z10
        all_goals
        obtain ⟨y_11, z11, h⟩ := bd_some h
        have fz11 := Fs_76 z11
        try simp only [go_sem, gz2, z2, gz3, z3, gz4, z4, gz5, z5, gz6naaan, gz6naabn, gz6nabn, gz6nb, z7, z8, z10] at fz11
        obtain ⟨y_12, z12, h⟩ := bd_some h
        have fz12 := Fs_70 z12
        try simp only [go_sem, gz2, z2, gz3, z3, gz4, z4, gz5, z5, gz6naaan, gz6naabn, gz6nabn, gz6nb, z7, z8, z10] at fz12
        obtain ⟨y_17, z17, h⟩ := bd_some h
        obtain ⟨Lz17, ez17⟩ := spec_ReadRule_l1_ex z17
        obtain ⟨z18, h⟩ := ck_some h
        have lz18 := ix_lt z18
        have xz18 := getD_mapD AV.str y_1 lz18
        try simp only [go_sem] at lz18
        try simp only [go_sem] at xz18
        try simp only [go_sem, n1, n2, n3, n4, gz2, z2, gz3, z3, gz4, z4, gz5, z5, gz6naaan, gz6naabn, gz6nabn, gz6nb, z7, z8, z10] at z18
        all_goals
        obtain ⟨z19, h⟩ := ck_some h
        try simp only [go_sem, n1, n2, n3, n4, gz2, z2, gz3, z3, gz4, z4, gz5, z5, gz6naaan, gz6naabn, gz6nabn, gz6nb, z7, z8, z10, z18] at z19
        all_goals
        obtain ⟨z20, h⟩ := ck_some h
        rcases or_split z20 with ⟨gz20, z20⟩ | gz20
        ·try simp only [go_sem, n1, n2, n3, n4, gz2, z2, gz3, z3, gz4, z4, gz5, z5, gz6naaan, gz6naabn, gz6nabn, gz6nb, z7, z8, z10, z18, z19] at gz20
         all_goals
         obtain ⟨y_20, hz20⟩ := Option.isSome_iff_exists.1 z20
         have fz20 := Fs_30 hz20
         try simp only [go_sem, n1, n2, n3, n4, gz2, z2, gz3, z3, gz4, z4, gz5, z5, gz6naaan, gz6naabn, gz6nabn, gz6nb, z7, z8, z10, z18, z19, gz20] at hz20
         all_goals
         try simp only [go_sem, gz2, z2, gz3, z3, gz4, z4, gz5, z5, gz6naaan, gz6naabn, gz6nabn, gz6nb, z7, z8, z10, z18, z19, gz20] at fz20
         rcases it_some h with ⟨z21, h⟩ | ⟨z21, h⟩
         ·try simp only [go_sem, n1, n2, n3, n4, gz2, z2, gz3, z3, gz4, z4, gz5, z5, gz6naaan, gz6naabn, gz6nabn, gz6nb, z7, z8, z10, z18, z19, gz20, hz20] at z21
          all_goals
          obtain rfl := so_some h
          refine ⟨Lz17, fun L hL => ?_⟩
          have ez17 := ez17 L (by omega)
          try simp only [go_sem, E_77_l1, R_77_l1, ir20_k0, ir20_o0, ir20_r0, gz2, z2, gz3, z3, gz4, z4, gz5, z5, gz6naaan, gz6naabn, gz6nabn, gz6nb, z7, z8, z10, z18, z19, gz20, hz20, z21] at ez17
          simp only [go_sem, ir20, E_77_l1, R_77_l1, ir20_k0, ir20_o0, ir20_r0, fz1, gz2, z2, lz2, xz2, gz3, z3, lz3, xz3, gz4, z4, lz4, xz4, gz5, z5, lz5, xz5, gz6naaan, gz6naabn, gz6nabn, gz6nb, z7, z8, lz8, xz8, fz9, z10, lz10, xz10, fz11, fz12, z18, lz18, xz18, z19, gz20, hz20, fz20, z21, ez17]
         ·try simp only [go_sem, n1, n2, n3, n4, gz2, z2, gz3, z3, gz4, z4, gz5, z5, gz6naaan, gz6naabn, gz6nabn, gz6nb, z7, z8, z10, z18, z19, gz20, hz20] at z21
          all_goals
          obtain rfl := so_some h
          refine ⟨Lz17, fun L hL => ?_⟩
          have ez17 := ez17 L (by omega)
          try simp only [go_sem, E_77_l1, R_77_l1, ir20_k0, ir20_o0, ir20_r0, gz2, z2, gz3, z3, gz4, z4, gz5, z5, gz6naaan, gz6naabn, gz6nabn, gz6nb, z7, z8, z10, z18, z19, gz20, hz20, z21] at ez17
          simp only [go_sem, ir20, E_77_l1, R_77_l1, ir20_k0, ir20_o0, ir20_r0, fz1, gz2, z2, lz2, xz2, gz3, z3, lz3, xz3, gz4, z4, lz4, xz4, gz5, z5, lz5, xz5, gz6naaan, gz6naabn, gz6nabn, gz6nb, z7, z8, lz8, xz8, fz9, z10, lz10, xz10, fz11, fz12, z18, lz18, xz18, z19, gz20, hz20, fz20, z21, ez17]
        ·have gz20n := no_f gz20
         rcases or_t gz20n with gz20na | ⟨gz20na, gz20nb⟩
         ·have gz20nan := no_t gz20na
          try simp only [go_sem, n1, n2, n3, n4, gz2, z2, gz3, z3, gz4, z4, gz5, z5, gz6naaan, gz6naabn, gz6nabn, gz6nb, z7, z8, z10, z18, z19] at gz20nan
          all_goals
          rcases it_some h with ⟨z21, h⟩ | ⟨z21, h⟩
          ·try simp only [go_sem, n1, n2, n3, n4, gz2, z2, gz3, z3, gz4, z4, gz5, z5, gz6naaan, gz6naabn, gz6nabn, gz6nb, z7, z8, z10, z18, z19, gz20nan] at z21
           all_goals
           obtain rfl := so_some h
           refine ⟨Lz17, fun L hL => ?_⟩
           have ez17 := ez17 L (by omega)
           try simp only [go_sem, E_77_l1, R_77_l1, ir20_k0, ir20_o0, ir20_r0, gz2, z2, gz3, z3, gz4, z4, gz5, z5, gz6naaan, gz6naabn, gz6nabn, gz6nb, z7, z8, z10, z18, z19, gz20nan, z21] at ez17
           simp only [go_sem, ir20, E_77_l1, R_77_l1, ir20_k0, ir20_o0, ir20_r0, fz1, gz2, z2, lz2, xz2, gz3, z3, lz3, xz3, gz4, z4, lz4, xz4, gz5, z5, lz5, xz5, gz6naaan, gz6naabn, gz6nabn, gz6nb, z7, z8, lz8, xz8, fz9, z10, lz10, xz10, fz11, fz12, z18, lz18, xz18, z19, gz20nan, z21, ez17]
          ·try simp only [go_sem, n1, n2, n3, n4, gz2, z2, gz3, z3, gz4, z4, gz5, z5, gz6naaan, gz6naabn, gz6nabn, gz6nb, z7, z8, z10, z18, z19, gz20nan] at z21
           all_goals
           (simp_all)
         ·have gz20nan := no_f gz20na
          have gz20nbn := no_t gz20nb
          try simp only [go_sem, n1, n2, n3, n4, gz2, z2, gz3, z3, gz4, z4, gz5, z5, gz6naaan, gz6naabn, gz6nabn, gz6nb, z7, z8, z10, z18, z19] at gz20nan
          all_goals
          try simp only [go_sem, n1, n2, n3, n4, gz2, z2, gz3, z3, gz4, z4, gz5, z5, gz6naaan, gz6naabn, gz6nabn, gz6nb, z7, z8, z10, z18, z19, gz20nan] at gz20nbn
          all_goals
          rcases it_some h with ⟨z21, h⟩ | ⟨z21, h⟩
          ·try simp only [go_sem, n1, n2, n3, n4, gz2, z2, gz3, z3, gz4, z4, gz5, z5, gz6naaan, gz6naabn, gz6nabn, gz6nb, z7, z8, z10, z18, z19, gz20nan, gz20nbn] at z21
           all_goals
           obtain rfl := so_some h
           refine ⟨Lz17, fun L hL => ?_⟩
           have ez17 := ez17 L (by omega)
           try simp only [go_sem, E_77_l1, R_77_l1, ir20_k0, ir20_o0, ir20_r0, gz2, z2, gz3, z3, gz4, z4, gz5, z5, gz6naaan, gz6naabn, gz6nabn, gz6nb, z7, z8, z10, z18, z19, gz20nan, gz20nbn, z21] at ez17
           simp only [go_sem, ir20, E_77_l1, R_77_l1, ir20_k0, ir20_o0, ir20_r0, fz1, gz2, z2, lz2, xz2, gz3, z3, lz3, xz3, gz4, z4, lz4, xz4, gz5, z5, lz5, xz5, gz6naaan, gz6naabn, gz6nabn, gz6nb, z7, z8, lz8, xz8, fz9, z10, lz10, xz10, fz11, fz12, z18, lz18, xz18, z19, gz20nan, gz20nbn, z21, ez17]
          ·try simp only [go_sem, n1, n2, n3, n4, gz2, z2, gz3, z3, gz4, z4, gz5, z5, gz6naaan, gz6naabn, gz6nabn, gz6nb, z7, z8, z10, z18, z19, gz20nan, gz20nbn] at z21
           all_goals
           (simp_all)
    ·have gz5n := no_f gz5
     rcases or_t gz5n with gz5na | ⟨gz5na, gz5nb⟩
     ·try simp only [go_sem, n1, n2, n3, n4, gz2, z2, gz3, z3, gz4, z4] at gz5na
      all_goals
      (simp_all)
     ·obtain ⟨gz5naa, gz5nab⟩ := or_f gz5na
      obtain ⟨gz5naaa, gz5naab⟩ := or_f gz5naa
      have gz5naaan := no_f gz5naaa
      have gz5naabn := no_f gz5naab
      have gz5nabn := no_f gz5nab
      try simp only [go_sem, n1, n2, n3, n4, gz2, z2, gz3, z3, gz4, z4] at gz5naaan
      all_goals
      try simp only [go_sem, n1, n2, n3, n4, gz2, z2, gz3, z3, gz4, z4, gz5naaan] at gz5naabn
      all_goals
      try simp only [go_sem, n1, n2, n3, n4, gz2, z2, gz3, z3, gz4, z4, gz5naaan, gz5naabn] at gz5nabn
      all_goals
      try simp only [go_sem, n1, n2, n3, n4, gz2, z2, gz3, z3, gz4, z4, gz5naaan, gz5naabn, gz5nabn] at gz5nb
      all_goals
      obtain ⟨z6, h⟩ := ck_some h
      rcases it_some h with ⟨z7, h⟩ | ⟨z7, h⟩
      ·try simp only [go_sem, n1, n2, n3, n4, gz2, z2, gz3, z3, gz4, z4, gz5naaan, gz5naabn, gz5nabn, gz5nb] at z7
       all_goals
       obtain rfl := so_some h
       refine ⟨0, fun L hL => ?_⟩
       simp only [go_sem, ir20, E_77_l1, R_77_l1, ir20_k0, ir20_o0, ir20_r0, fz1, gz2, z2, lz2, xz2, gz3, z3, lz3, xz3, gz4, z4, lz4, xz4, gz5naaan, gz5naabn, gz5nabn, gz5nb, z7]
      ·try simp only [go_sem, n1, n2, n3, n4, gz2, z2, gz3, z3, gz4, z4, gz5naaan, gz5naabn, gz5nabn, gz5nb] at z7
       all_goals
       (simp_all)
   ·have gz4n := no_f gz4
    rcases or_t gz4n with gz4na | ⟨gz4na, gz4nb⟩
    ·try simp only [go_sem, n1, n2, n3, n4, gz2, z2, gz3, z3] at gz4na
     all_goals
     (simp_all)
    ·obtain ⟨gz4naa, gz4nab⟩ := or_f gz4na
     have gz4naan := no_f gz4naa
     have gz4nabn := no_f gz4nab
     have gz4nbn := no_t gz4nb
     try simp only [go_sem, n1, n2, n3, n4, gz2, z2, gz3, z3] at gz4naan
     all_goals
     try simp only [go_sem, n1, n2, n3, n4, gz2, z2, gz3, z3, gz4naan] at gz4nabn
     all_goals
     try simp only [go_sem, n1, n2, n3, n4, gz2, z2, gz3, z3, gz4naan, gz4nabn] at gz4nbn
     all_goals
     obtain ⟨z5, h⟩ := ck_some h
     obtain ⟨z6, h⟩ := ck_some h
     rcases it_some h with ⟨z7, h⟩ | ⟨z7, h⟩
     ·try simp only [go_sem, n1, n2, n3, n4, gz2, z2, gz3, z3, gz4naan, gz4nabn, gz4nbn] at z7
      all_goals
      obtain rfl := so_some h
      refine ⟨0, fun L hL => ?_⟩
      simp only [go_sem, ir20, E_77_l1, R_77_l1, ir20_k0, ir20_o0, ir20_r0, fz1, gz2, z2, lz2, xz2, gz3, z3, lz3, xz3, gz4naan, gz4nabn, gz4nbn, z7]
     ·try simp only [go_sem, n1, n2, n3, n4, gz2, z2, gz3, z3, gz4naan, gz4nabn, gz4nbn] at z7
      all_goals
      (simp_all)
  ·have gz3n := no_f gz3
   rcases or_t gz3n with gz3na | ⟨gz3na, gz3nb⟩
   ·try simp only [go_sem, n1, n2, n3, n4, gz2, z2] at gz3na
    all_goals
    (simp_all)
   ·have gz3nan := no_f gz3na
    have gz3nbn := no_t gz3nb
    try simp only [go_sem, n1, n2, n3, n4, gz2, z2] at gz3nan
    all_goals
    try simp only [go_sem, n1, n2, n3, n4, gz2, z2, gz3nan] at gz3nbn
    all_goals
    obtain ⟨z4, h⟩ := ck_some h
    obtain ⟨z5, h⟩ := ck_some h
    obtain ⟨z6, h⟩ := ck_some h
    rcases it_some h with ⟨z7, h⟩ | ⟨z7, h⟩
    ·try simp only [go_sem, n1, n2, n3, n4, gz2, z2, gz3nan, gz3nbn] at z7
     all_goals
     obtain rfl := so_some h
     refine ⟨0, fun L hL => ?_⟩
     simp only [go_sem, ir20, E_77_l1, R_77_l1, ir20_k0, ir20_o0, ir20_r0, fz1, gz2, z2, lz2, xz2, gz3nan, gz3nbn, z7]
    ·try simp only [go_sem, n1, n2, n3, n4, gz2, z2, gz3nan, gz3nbn] at z7
     all_goals
     (simp_all)
 ·have gz2n := no_f gz2
  have gz2nn := no_t gz2n
  try simp only [go_sem, n1, n2, n3, n4] at gz2nn
  all_goals
  obtain ⟨z3, h⟩ := ck_some h
  obtain ⟨z4, h⟩ := ck_some h
  obtain ⟨z5, h⟩ := ck_some h
  obtain ⟨z6, h⟩ := ck_some h
  rcases it_some h with ⟨z7, h⟩ | ⟨z7, h⟩
  ·try simp only [go_sem, n1, n2, n3, n4, gz2nn] at z7
   all_goals
   obtain rfl := so_some h
   refine ⟨0, fun L hL => ?_⟩
   simp only [go_sem, ir20, E_77_l1, R_77_l1, ir20_k0, ir20_o0, ir20_r0, fz1, gz2nn, z7]
  ·try simp only [go_sem, n1, n2, n3, n4, gz2nn] at z7
   all_goals
   (simp_all)


def ir21_v : List Nat := [0, 2, 3, 4, 5, 6]
def ir21 : AFn := ⟨1, 6, .seq (.region false [ VO 1 2 (.newnil 6), VO 2 3 (.newnil 6)]) (.seq (.region false [ PM 7 0, PO 8 (.call 37 [(.s 0)]), VS 3 4 0]) (.seq (.region false [ PM 9 3, PO 10 (.call 65 [(.s 0)]), VS 4 5 0]) (.seq (.region false [ PO 11 (.mkSl 6 (.agg [.str [], .int .i64 (0), .int .i64 (0), .int .i64 (0), .int .i64 (0), .int .i64 (0)]) 0 []), PM 12 4, PO 13 (.app 6 56 (.agg [.str [], .int .i64 (0), .int .i64 (0), .int .i64 (0), .int .i64 (0), .int .i64 (0)]) (.s 1) (.s 0)), VS 5 6 0]) (.seq (.test false [ PM 14 5, PO 15 (.len false (.s 0)), PO 16 (.bin false .gtr (.s 0) (I6
 0)), PO 17 (.mov (.s 0)), ⟨.push, 18, (some ((.s 0), true)), .mov (.v 3)⟩, ⟨.push, 19, (some ((.s 1), true)), .callw 60 [(.s 0), (I6 2)]⟩, PO 20 (.pick (.s 2) (.s 0) (.c (.bool false)))] (.s 0) (.anyo 9 [ SO 0 21 (.mov (.v 5)), SO 1 22 (.ixAddr 6 (.s 0) (I6 0)), SO 2 23 (.fldAddr 2 (.s 1)), SO 3 24 (.load false 1 (.s 2)), SO 4 25 (.mov (.v 3)), SO 5 26 (.call 66 [(.s 4), (I6 2)]), SO 6 27 (.flat (.bin false .add (.s 3) (.s 5))), SO 7 28 (.ixAddr 6 (.s 0) (I6 0)), SO 8 29 (.fldAddr 2 (.s 7)), ⟨.no, 0, none, .store 1 (.s 8) (.s 6)⟩] [[4, 0, 1, 2, 3, 5, 6, 7, 8, 9], [4, 0, 1, 2, 5, 3, 6, 7, 8,
 9], [4, 0, 1, 5, 2, 3, 6, 7, 8, 9], [4, 0, 5, 1, 2, 3, 6, 7, 8, 9], [4, 5, 0, 1, 2, 3, 6, 7, 8, 9]] .skip) (.skip)) (.seq (.test false [ PM 30 3, PO 31 (.call 60 [(.s 0), (I6 5)])] (.s 0) (.region false [ PM 32 5, PO 33 (.build [.str [], .int .i64 (0), .int .i64 (0), .int .i64 (0), .int .i64 (0), .int .i64 (0)] []), PO 34 (.mkSl 6 (.agg [.str [], .int .i64 (0), .int .i64 (0), .int .i64 (0), .int .i64 (0), .int .i64 (0)]) 1 [(0, (.s 0))]), PO 35 (.app 6 56 (.agg [.str [], .int .i64 (0), .int .i64 (0), .int .i64 (0), .int .i64 (0), .int .i64 (0)]) (.s 2) (.s 0)), VS 5 6 0]) (.skip)) (.seq
 (.region false [ PM 36 4, PM 37 5, VS 1 2 1, VS 2 3 0]) (.ret))))))), [.t 1, .t 2]⟩
noncomputable def t_78 : List (Nat × Ctr) := [(37, c_1), (65, c_8), (60, c_5), (66, c_3)]
theorem lk_78_37 : look t_78 37 = some c_1 := rfl
theorem lk_78_65 : look t_78 65 = some c_8 := rfl
theorem lk_78_60 : look t_78 60 = some c_5 := rfl
theorem lk_78_66 : look t_78 66 = some c_3 := rfl
noncomputable def c_78 : Ctr := mkF t_78 ir21 [.bor]
theorem s_78 : Sound Tryz.prog 21 c_78 := mkF_sound _ rfl (snd_cons s_1 (snd_cons s_8 (snd_cons s_5 (snd_cons s_3 snd_nil)))) (by kernel_rfl : chkFn Tryz.prog 21 ir21 ir21_v = true)
theorem M_78 : c_78.modes = [.bor] := rfl
theorem Fl_78 : c_78.flat = true := rfl
attribute [go_sem] M_78 Fl_78
attribute [go_sem] lk_78_37 lk_78_65 lk_78_60 lk_78_66
theorem Fs_78 {code : List UInt8} {y_ : (List Rule) × (List Rule)} (h : spec_DrawSameRules code = some y_) : c_78.F [.sl 1 (List.map byteAV code)] = ⟨true, .tup [.fresh 6 (List.map Rule_av y_.1), .fresh 6 (List.map Rule_av y_.2)], [.any]⟩ := by
 refine mkF_E (by simp only [flatA, flatB, flat1, List.all_cons, List.all_nil, Bool.and_self, flatE_map (f := Rule_av) (fun _ => rfl), flatE_map (f := Rule_av) (fun _ => rfl)]) ?_
 dsimp only [spec_DrawSameRules] at h
 obtain ⟨y_1, z1, h⟩ := bd_some h
 have fz1 := Fs_1 z1
 try simp only [go_sem] at fz1
 obtain ⟨y_2, z2, h⟩ := bd_some h
 have fz2 := Fs_8 z2
 try simp only [go_sem] at fz2
 obtain ⟨z3, h⟩ := ck_some h
 try simp only [go_sem, n1, n2, n3, n4] at z3
 all_goals
 rcases it_some h with ⟨z4, h⟩ | ⟨z4, h⟩
 ·try simp only [go_sem, n1, n2, n3, n4, z3] at z4
  all_goals
  obtain ⟨y_5, z5, h⟩ := bd_some h
  have fz5 := Fs_5 z5
  try simp only [go_sem, z3, z4] at fz5
  rcases it_some h with ⟨z6, h⟩ | ⟨z6, h⟩
  ·try simp only [go_sem, n1, n2, n3, n4, z3, z4] at z6
   all_goals
   obtain ⟨z7, h⟩ := ck_some h
   have lz7 := ix_lt z7
   have xz7 := getD_mapD Rule_av (([] : List Rule) ++ y_2.1) lz7
   try simp only [go_sem] at lz7
   try simp only [go_sem] at xz7
   try simp only [go_sem, n1, n2, n3, n4, z3, z4, z6] at z7
   all_goals
   obtain ⟨y_8, z8, h⟩ := bd_some h
   have fz8 := Fs_3 z8
   try simp only [go_sem, z3, z4, z6, z7] at fz8
   obtain ⟨y_9, z9, h⟩ := bd_some h
   have fz9 := Fs_5 z9
   try simp only [go_sem, z3, z4, z6, z7] at fz9
   rcases it_some h with ⟨z10, h⟩ | ⟨z10, h⟩
   ·try simp only [go_sem, n1, n2, n3, n4, z3, z4, z6, z7] at z10
    all_goals
    obtain ⟨z11, h⟩ := ck_some h
    try simp only [go_sem, n1, n2, n3, n4, z3, z4, z6, z7, z10] at z11
    all_goals
    obtain rfl := so_some h
    refine ⟨0, fun L hL => ?_⟩
    simp only [go_sem, ir21, fz1, fz2, z3, z4, fz5, z6, z7, lz7, xz7, fz8, fz9, z10, z11]
   ·try simp only [go_sem, n1, n2, n3, n4, z3, z4, z6, z7] at z10
    all_goals
    obtain rfl := so_some h
    refine ⟨0, fun L hL => ?_⟩
    simp only [go_sem, ir21, fz1, fz2, z3, z4, fz5, z6, z7, lz7, xz7, fz8, fz9, z10]
  ·try simp only [go_sem, n1, n2, n3, n4, z3, z4] at z6
   all_goals
   obtain ⟨y_12, z12, h⟩ := bd_some h
   have fz12 := Fs_5 z12
   try simp only [go_sem, z3, z4, z6] at fz12
   rcases it_some h with ⟨z13, h⟩ | ⟨z13, h⟩
   ·try simp only [go_sem, n1, n2, n3, n4, z3, z4, z6] at z13
    all_goals
    obtain ⟨z14, h⟩ := ck_some h
    try simp only [go_sem, n1, n2, n3, n4, z3, z4, z6, z13] at z14
    all_goals
    obtain rfl := so_some h
    refine ⟨0, fun L hL => ?_⟩
    simp only [go_sem, ir21, fz1, fz2, z3, z4, fz5, z6, fz12, z13, z14]
   ·try simp only [go_sem, n1, n2, n3, n4, z3, z4, z6] at z13
    all_goals
    obtain rfl := so_some h
    refine ⟨0, fun L hL => ?_⟩
    simp only [go_sem, ir21, fz1, fz2, z3, z4, fz5, z6, fz12, z13]
 ·try simp only [go_sem, n1, n2, n3, n4, z3] at z4
  all_goals
  obtain ⟨y_15, z15, h⟩ := bd_some h
  have fz15 := Fs_5 z15
  try simp only [go_sem, z3, z4] at fz15
  rcases it_some h with ⟨z16, h⟩ | ⟨z16, h⟩
  ·try simp only [go_sem, n1, n2, n3, n4, z3, z4] at z16
   all_goals
   obtain ⟨z17, h⟩ := ck_some h
   try simp only [go_sem, n1, n2, n3, n4, z3, z4, z16] at z17
   all_goals
   obtain rfl := so_some h
   refine ⟨0, fun L hL => ?_⟩
   simp only [go_sem, ir21, fz1, fz2, z3, z4, fz15, z16, z17]
  ·try simp only [go_sem, n1, n2, n3, n4, z3, z4] at z16
   all_goals
   obtain rfl := so_some h
   refine ⟨0, fun L hL => ?_⟩
   simp only [go_sem, ir21, fz1, fz2, z3, z4, fz15, z16]


def ir22_b0 : IR := .seq (.test false [ PM 11 3, PM 12 0, PO 13 (.len false (.s 0)), PO 14 (.bin false .lss (.s 2) (.s 0))] (.s 0) (.skip) (.exit 0)) (.seq (.block 1 (.anyo 9 [ SO 0 17 (.mov (.v 0)), SO 1 18 (.mov (.v 3)), SO 2 19 (.ixAddr 1 (.s 0) (.s 1)), SO 3 20 (.load false 1 (.s 2)), SO 4 21 (.mov (.v 1)), SO 5 22 (.mov (.v 3)), SO 6 23 (.ixAddr 1 (.s 4) (.s 5)), SO 7 24 (.load false 1 (.s 6)), SO 8 25 (.bin false .neq (.s 3) (.s 7))] [] (.cond (.s 8) (.seq (.region false [ VO 2 4 (.mov (.c (.bool false)))]) (.ret)) (.skip)))) (.region false [ PM 15 3, PO 16 (.bin false .add (.s 0) (I6
 1)), VS 3 5 0]))
def ir22_k0 : List Bool := [true, true, false, true]
def ir22_o0 : List Bool := [false, false, false, false]
def ir22_r0 : List Bool := [false, false, true, false]
def ir22_v : List Nat := [0, 1, 4, 5]
def ir22 : AFn := ⟨2, 4, .seq (.region false [ VO 2 4 (.mov (.c (.bool false)))]) (.seq (.test false [ PM 6 0, PO 7 (.len false (.s 0)), PM 8 1, PO 9 (.len false (.s 0)), PO 10 (.bin false .neq (.s 2) (.s 0))] (.s 0) (.seq (.region false [ VO 2 4 (.mov (.c (.bool false)))]) (.ret)) (.skip)) (.seq (.seq (.region false [ VO 3 5 (.mov (I6 0))]) (.block 0 (.loop ir22_k0 ir22_o0 ir22_r0 ir22_b0))) (.seq (.region false [ VO 2 4 (.mov (.c (.bool true)))]) (.ret)))), [.t 2]⟩
noncomputable def t_79 : List (Nat × Ctr) := []
noncomputable def c_79 : Ctr := mkF t_79 ir22 [.bor, .bor]
theorem s_79 : Sound Tryz.prog 22 c_79 := mkF_sound _ rfl snd_nil (by kernel_rfl : chkFn Tryz.prog 22 ir22 ir22_v = true)
theorem M_79 : c_79.modes = [.bor, .bor] := rfl
theorem Fl_79 : c_79.flat = true := rfl
attribute [go_sem] M_79 Fl_79
def E_79_l1 (a : List Int) (b : List Int) : Int → St
 | i => ⟨[.sl 1 (List.map (AV.int .i64) a), .sl 1 (List.map (AV.int .i64) b), .any, .int .i64 i], [], [], true⟩
def R_79_l1 (a : List Int) (b : List Int) : (Unit ⊕ Bool) → Res
 | .inl y => (.exit 0, ⟨[.any, .any, .any, .any], [], [], true⟩)
 | .inr y => (.ret, ⟨[.any, .any, .bool y, .any], [], [], true⟩)
theorem laws_f6ints_l1_ex {a : List Int} {b : List Int} {sgm_ : Int} {rho_ : Unit ⊕ Bool} (h : whileE (laws_f6ints_l1 a b) sgm_ = some rho_) : ∃ L0, ∀ L, L0 ≤ L → iter (exec (look t_79) L ir22_b0) ir22_k0 ir22_o0 ir22_r0 L (E_79_l1 a b sgm_) = R_79_l1 a b rho_ := by
 refine loop_ex (E := E_79_l1 a b) (R := R_79_l1 a b) (fun y => by first | (intro c; cases c) | (rcases y with y | y <;> (intro c; cases c)) | (rcases y with y | y | y <;> (intro c; cases c))) ?_ h
 clear h
 intro i o_ h
 dsimp only [laws_f6ints_l1] at h
 rcases it_some h with ⟨z2, h⟩ | ⟨z2, h⟩
 ·try simp only [go_sem, n1, n2, n3, n4] at z2
  all_goals
  obtain ⟨z3, h⟩ := ck_some h
  have lz3 := ix_lt z3
  have xz3 := getD_mapD (AV.int .i64) a lz3
  try simp only [go_sem] at lz3
  try simp only [go_sem] at xz3
  try simp only [go_sem, n1, n2, n3, n4, z2] at z3
  all_goals
  obtain ⟨z4, h⟩ := ck_some h
  have lz4 := ix_lt z4
  have xz4 := getD_mapD (AV.int .i64) b lz4
  try simp only [go_sem] at lz4
  try simp only [go_sem] at xz4
  try simp only [go_sem, n1, n2, n3, n4, z2, z3] at z4
  all_goals
  rcases it_some h with ⟨z5, h⟩ | ⟨z5, h⟩
  ·try simp only [go_sem, n1, n2, n3, n4, z2, z3, z4] at z5
   all_goals
   obtain rfl := so_some h
   refine ⟨0, fun L hL => ?_⟩
   simp only [go_sem, ir22, E_79_l1, R_79_l1, ir22_b0, ir22_k0, ir22_o0, ir22_r0, z2, z3, lz3, xz3, z4, lz4, xz4, z5]
  ·try simp only [go_sem, n1, n2, n3, n4, z2, z3, z4] at z5
   all_goals
   obtain rfl := so_some h
   refine ⟨0, fun L hL => ?_⟩
   simp only [go_sem, ir22, E_79_l1, R_79_l1, ir22_b0, ir22_k0, ir22_o0, ir22_r0, z2, z3, lz3, xz3, z4, lz4, xz4, z5]
 ·try simp only [go_sem, n1, n2, n3, n4] at z2
  all_goals
  obtain rfl := so_some h
  refine ⟨0, fun L hL => ?_⟩
  simp only [go_sem, ir22, E_79_l1, R_79_l1, ir22_b0, ir22_k0, ir22_o0, ir22_r0, z2]

theorem Fs_79 {a : List Int} {b : List Int} {y_ : Bool} (h : laws_f6ints a b = some y_) : c_79.F [.sl 1 (List.map (AV.int .i64) a), .sl 1 (List.map (AV.int .i64) b)] = ⟨true, .bool y_, [.any, .any]⟩ := by
 refine mkF_E rfl ?_
 dsimp only [laws_f6ints] at h
 rcases it_some h with ⟨z1, h⟩ | ⟨z1, h⟩
 ·try simp only [go_sem, n1, n2, n3, n4] at z1
  all_goals
  obtain rfl := so_some h
  refine ⟨0, fun L hL => ?_⟩
  simp only [go_sem, ir22, E_79_l1, R_79_l1, ir22_k0, ir22_o0, ir22_r0, z1]
 ·try simp only [go_sem, n1, n2, n3, n4] at z1
  all_goals
  obtain ⟨y_6, z6, h⟩ := bd_some h
  obtain ⟨Lz6, ez6⟩ := laws_f6ints_l1_ex z6
  rcases y_6 with y_6a | y_6b
  ·dsimp only at h
   obtain rfl := so_some h
   refine ⟨Lz6, fun L hL => ?_⟩
   have ez6 := ez6 L (by omega)
   try simp only [go_sem, E_79_l1, R_79_l1, ir22_k0, ir22_o0, ir22_r0, z1] at ez6
   simp only [go_sem, ir22, E_79_l1, R_79_l1, ir22_k0, ir22_o0, ir22_r0, z1, ez6]
  ·dsimp only at h
   obtain rfl := so_some h
   refine ⟨Lz6, fun L hL => ?_⟩
   have ez6 := ez6 L (by omega)
   try simp only [go_sem, E_79_l1, R_79_l1, ir22_k0, ir22_o0, ir22_r0, z1] at ez6
   simp only [go_sem, ir22, E_79_l1, R_79_l1, ir22_k0, ir22_o0, ir22_r0, z1, ez6]


def ir23_b0 : IR := .seq (.test false [ PM 11 3, PM 12 0, PO 13 (.len false (.s 0)), PO 14 (.bin false .lss (.s 2) (.s 0))] (.s 0) (.skip) (.exit 0)) (.seq (.block 1 (.anyo 9 [ SO 0 17 (.mov (.v 0)), SO 1 18 (.mov (.v 3)), SO 2 19 (.ixAddr 6 (.s 0) (.s 1)), SO 3 20 (.load true 6 (.s 2)), SO 4 21 (.mov (.v 1)), SO 5 22 (.mov (.v 3)), SO 6 23 (.ixAddr 6 (.s 4) (.s 5)), SO 7 24 (.load true 6 (.s 6)), SO 8 25 (.eqA true [2, 1, 1, 1, 1, 1] (.s 3) (.s 7))] [] (.cond (.s 8) (.seq (.region false [ VO 2 4 (.mov (.c (.bool false)))]) (.ret)) (.skip)))) (.region false [ PM 15 3, PO 16 (.bin false .add (.s
 0) (I6 1)), VS 3 5 0]))
def ir23_k0 : List Bool := [true, true, false, true]
def ir23_o0 : List Bool := [false, false, false, false]
def ir23_r0 : List Bool := [false, false, true, false]
def ir23_v : List Nat := [0, 1, 4, 5]
def ir23 : AFn := ⟨2, 4, .seq (.region false [ VO 2 4 (.mov (.c (.bool false)))]) (.seq (.test false [ PM 6 0, PO 7 (.len false (.s 0)), PM 8 1, PO 9 (.len false (.s 0)), PO 10 (.bin false .neq (.s 2) (.s 0))] (.s 0) (.seq (.region false [ VO 2 4 (.mov (.c (.bool false)))]) (.ret)) (.skip)) (.seq (.seq (.region false [ VO 3 5 (.mov (I6 0))]) (.block 0 (.loop ir23_k0 ir23_o0 ir23_r0 ir23_b0))) (.seq (.region false [ VO 2 4 (.mov (.c (.bool true)))]) (.ret)))), [.t 2]⟩
noncomputable def t_80 : List (Nat × Ctr) := []
noncomputable def c_80 : Ctr := mkF t_80 ir23 [.bor, .bor]
theorem s_80 : Sound Tryz.prog 23 c_80 := mkF_sound _ rfl snd_nil (by kernel_rfl : chkFn Tryz.prog 23 ir23 ir23_v = true)
theorem M_80 : c_80.modes = [.bor, .bor] := rfl
theorem Fl_80 : c_80.flat = true := rfl
attribute [go_sem] M_80 Fl_80
def E_80_l1 (a : List Rule) (b : List Rule) : Int → St
 | i => ⟨[.sl 6 (List.map Rule_av a), .sl 6 (List.map Rule_av b), .any, .int .i64 i], [], [], true⟩
def R_80_l1 (a : List Rule) (b : List Rule) : (Unit ⊕ Bool) → Res
 | .inl y => (.exit 0, ⟨[.any, .any, .any, .any], [], [], true⟩)
 | .inr y => (.ret, ⟨[.any, .any, .bool y, .any], [], [], true⟩)
theorem spec_SameRules_l1_ex {a : List Rule} {b : List Rule} {sgm_ : Int} {rho_ : Unit ⊕ Bool} (h : whileE (spec_SameRules_l1 a b) sgm_ = some rho_) : ∃ L0, ∀ L, L0 ≤ L → iter (exec (look t_80) L ir23_b0) ir23_k0 ir23_o0 ir23_r0 L (E_80_l1 a b sgm_) = R_80_l1 a b rho_ := by
 refine loop_ex (E := E_80_l1 a b) (R := R_80_l1 a b) (fun y => by first | (intro c; cases c) | (rcases y with y | y <;> (intro c; cases c)) | (rcases y with y | y | y <;> (intro c; cases c))) ?_ h
 clear h
 intro i o_ h
 dsimp only [spec_SameRules_l1] at h
 rcases it_some h with ⟨z2, h⟩ | ⟨z2, h⟩
 ·try simp only [go_sem, n1, n2, n3, n4] at z2
  all_goals
  obtain ⟨z3, h⟩ := ck_some h
  have lz3 := ix_lt z3
  have xz3 := getD_mapD Rule_av a lz3
  try simp only [go_sem] at lz3
  try simp only [go_sem] at xz3
  try simp only [go_sem, n1, n2, n3, n4, z2] at z3
  all_goals
  obtain ⟨z4, h⟩ := ck_some h
  have lz4 := ix_lt z4
  have xz4 := getD_mapD Rule_av b lz4
  try simp only [go_sem] at lz4
  try simp only [go_sem] at xz4
  try simp only [go_sem, n1, n2, n3, n4, z2, z3] at z4
  all_goals
  rcases it_some h with ⟨z5, h⟩ | ⟨z5, h⟩
  ·try simp only [go_sem, n1, n2, n3, n4, z2, z3, z4] at z5
   all_goals
   obtain rfl := so_some h
   refine ⟨0, fun L hL => ?_⟩
   simp only [go_sem, ir23, E_80_l1, R_80_l1, ir23_b0, ir23_k0, ir23_o0, ir23_r0, z2, z3, lz3, xz3, z4, lz4, xz4, z5]
  ·try simp only [go_sem, n1, n2, n3, n4, z2, z3, z4] at z5
   all_goals
   obtain rfl := so_some h
   refine ⟨0, fun L hL => ?_⟩
   simp only [go_sem, ir23, E_80_l1, R_80_l1, ir23_b0, ir23_k0, ir23_o0, ir23_r0, z2, z3, lz3, xz3, z4, lz4, xz4, z5]
 ·try simp only [go_sem, n1, n2, n3, n4] at z2
  all_goals
  obtain rfl := so_some h
  refine ⟨0, fun L hL => ?_⟩
  simp only [go_sem, ir23, E_80_l1, R_80_l1, ir23_b0, ir23_k0, ir23_o0, ir23_r0, z2]

theorem Fs_80 {a : List Rule} {b : List Rule} {y_ : Bool} (h : spec_SameRules a b = some y_) : c_80.F [.sl 6 (List.map Rule_av a), .sl 6 (List.map Rule_av b)] = ⟨true, .bool y_, [.any, .any]⟩ := by
 refine mkF_E rfl ?_
 dsimp only [spec_SameRules] at h
 rcases it_some h with ⟨z1, h⟩ | ⟨z1, h⟩
 ·try simp only [go_sem, n1, n2, n3, n4] at z1
  all_goals
  obtain rfl := so_some h
  refine ⟨0, fun L hL => ?_⟩
  simp only [go_sem, ir23, E_80_l1, R_80_l1, ir23_k0, ir23_o0, ir23_r0, z1]
 ·try simp only [go_sem, n1, n2, n3, n4] at z1
  all_goals
  obtain ⟨y_6, z6, h⟩ := bd_some h
  obtain ⟨Lz6, ez6⟩ := spec_SameRules_l1_ex z6
  rcases y_6 with y_6a | y_6b
  ·dsimp only at h
   obtain rfl := so_some h
   refine ⟨Lz6, fun L hL => ?_⟩
   have ez6 := ez6 L (by omega)
   try simp only [go_sem, E_80_l1, R_80_l1, ir23_k0, ir23_o0, ir23_r0, z1] at ez6
   simp only [go_sem, ir23, E_80_l1, R_80_l1, ir23_k0, ir23_o0, ir23_r0, z1, ez6]
  ·dsimp only at h
   obtain rfl := so_some h
   refine ⟨Lz6, fun L hL => ?_⟩
   have ez6 := ez6 L (by omega)
   try simp only [go_sem, E_80_l1, R_80_l1, ir23_k0, ir23_o0, ir23_r0, z1] at ez6
   simp only [go_sem, ir23, E_80_l1, R_80_l1, ir23_k0, ir23_o0, ir23_r0, z1, ez6]


def ir24_v : List Nat := [0, 1, 2]
def ir24 : AFn := ⟨1, 3, .seq (.region false [ VO 1 1 (.box (.v 0)), VO 2 2 (.mov (.c (.str [])))]) (.seq (.test false [ PO 3 (.call 41 [(.v 1)]), PO 4 (.un .not (.s 0))] (.s 0) (.seq (.region false [ VO 2 2 (.mov (.c (.str [])))]) (.ret)) (.skip)) (.seq (.region false [ PO 5 (.call 59 [(.v 1)]), VS 2 2 0]) (.ret))), [.t 2]⟩
noncomputable def t_81 : List (Nat × Ctr) := [(41, c_30), (59, c_71)]
theorem lk_81_41 : look t_81 41 = some c_30 := rfl
theorem lk_81_59 : look t_81 59 = some c_71 := rfl
noncomputable def c_81 : Ctr := mkF t_81 ir24 [.bor]
theorem s_81 : Sound Tryz.prog 24 c_81 := mkF_sound _ rfl (snd_cons s_30 (snd_cons s_71 snd_nil)) (by kernel_rfl : chkFn Tryz.prog 24 ir24 ir24_v = true)
theorem M_81 : c_81.modes = [.bor] := rfl
theorem Fl_81 : c_81.flat = true := rfl
attribute [go_sem] M_81 Fl_81
attribute [go_sem] lk_81_41 lk_81_59
theorem Fs_81 {r : Rule} {y_ : (List UInt8)} (h : spec_RuleText r = some y_) : c_81.F [Rule_av r] = ⟨true, .str y_, [.any]⟩ := by
 refine mkF_E rfl ?_
 dsimp only [spec_RuleText] at h
 obtain ⟨y_1, z1, h⟩ := bd_some h
 have fz1 := Fs_30 z1
 try simp only [go_sem] at fz1
 rcases it_some h with ⟨z2, h⟩ | ⟨z2, h⟩
 ·try simp only [go_sem, n1, n2, n3, n4] at z2
  all_goals
  obtain rfl := so_some h
  refine ⟨0, fun L hL => ?_⟩
  simp only [go_sem, ir24, fz1, z2]
 ·try simp only [go_sem, n1, n2, n3, n4] at z2
  all_goals
  obtain ⟨y_3, z3, h⟩ := bd_some h
  have fz3 := Fs_71 z3
  try simp only [go_sem, z2] at fz3
  obtain rfl := so_some h
  refine ⟨0, fun L hL => ?_⟩
  simp only [go_sem, ir24, fz1, z2, fz3]


def ir67_b0 : IR := .seq (.region false [ VO 6 14 (.bin false .lss (.v 5) (.v 4))]) (.seq (.cond (.v 6) (.skip) (.exit 0)) (.seq (.block 1 (.seq (.region false [ PM 15 5, VS 3 5 0]) (.anyo 9 [ SO 0 16 (.mov (.v 0)), SO 1 17 (.mov (.v 3)), SO 2 18 (.ixAddr 6 (.s 0) (.s 1)), SO 3 19 (.load true 6 (.s 2)), SO 4 20 (.mov (.v 1)), SO 5 21 (.mov (.v 3)), SO 6 22 (.ixAddr 6 (.s 4) (.s 5)), SO 7 23 (.load true 6 (.s 6)), SO 8 24 (.eqA true [2, 1, 1, 1, 1, 1] (.s 3) (.s 7))] [] (.cond (.s 8) (.seq (.region false [ VO 2 4 (.mov (.c (.bool false)))]) (.ret)) (.skip))))) (.region false [ PO 25 (.bin false
 .add (.v 5) (I6 1)), VS 5 13 0])))
def ir67_k0 : List Bool := [true, true, false, false, true, true, false]
def ir67_o0 : List Bool := [false, false, false, false, false, false, false]
def ir67_r0 : List Bool := [false, false, true, false, false, false, false]
def ir67_v : List Nat := [0, 1, 4, 5, 12, 13, 14]
def ir67 : AFn := ⟨2, 7, .seq (.region false [ VO 2 4 (.mov (.c (.bool false)))]) (.seq (.test false [ PM 6 0, PO 7 (.len false (.s 0)), PM 8 1, PO 9 (.len false (.s 0)), PO 10 (.bin false .neq (.s 2) (.s 0))] (.s 0) (.seq (.region false [ VO 2 4 (.mov (.c (.bool false)))]) (.ret)) (.skip)) (.seq (.seq (.region false [ PM 11 0, VO 4 12 (.len false (.s 0)), VO 5 13 (.mov (I6 0))]) (.block 0 (.loop ir67_k0 ir67_o0 ir67_r0 ir67_b0))) (.seq (.region false [ VO 2 4 (.mov (.c (.bool true)))]) (.ret)))), [.t 2]⟩
noncomputable def t_82 : List (Nat × Ctr) := []
noncomputable def c_82 : Ctr := mkF t_82 ir67 [.bor, .bor]
theorem s_82 : Sound Tryz.prog 67 c_82 := mkF_sound _ rfl snd_nil (by kernel_rfl : chkFn Tryz.prog 67 ir67 ir67_v = true)
theorem M_82 : c_82.modes = [.bor, .bor] := rfl
theorem Fl_82 : c_82.flat = true := rfl
attribute [go_sem] M_82 Fl_82
def E_82_l1 (s1 : List Rule) (s2 : List Rule) (t12 : Int) : Int → St
 | t13 => ⟨[.sl 6 (List.map Rule_av s1), .sl 6 (List.map Rule_av s2), .any, .any, .int .i64 t12, .int .i64 t13, .any], [], [], true⟩
def R_82_l1 (s1 : List Rule) (s2 : List Rule) (t12 : Int) : (Unit ⊕ Bool) → Res
 | .inl y => (.exit 0, ⟨[.any, .any, .any, .any, .any, .any, .any], [], [], true⟩)
 | .inr y => (.ret, ⟨[.any, .any, .bool y, .any, .any, .any, .any], [], [], true⟩)
theorem slices_Equal_impl_Rule_impl_Rule_l1_ex {s1 : List Rule} {s2 : List Rule} {t12 : Int} {sgm_ : Int} {rho_ : Unit ⊕ Bool} (h : whileE (slices_Equal_impl_Rule_impl_Rule_l1 s1 s2 t12) sgm_ = some rho_) : ∃ L0, ∀ L, L0 ≤ L → iter (exec (look t_82) L ir67_b0) ir67_k0 ir67_o0 ir67_r0 L (E_82_l1 s1 s2 t12 sgm_) = R_82_l1 s1 s2 t12 rho_ := by
 refine loop_ex (E := E_82_l1 s1 s2 t12) (R := R_82_l1 s1 s2 t12) (fun y => by first | (intro c; cases c) | (rcases y with y | y <;> (intro c; cases c)) | (rcases y with y | y | y <;> (intro c; cases c))) ?_ h
 clear h
 intro t13 o_ h
 dsimp only [slices_Equal_impl_Rule_impl_Rule_l1] at h
 rcases it_some h with ⟨z2, h⟩ | ⟨z2, h⟩
 ·try simp only [go_sem, n1, n2, n3, n4] at z2
  all_goals
  obtain ⟨z3, h⟩ := ck_some h
  have lz3 := ix_lt z3
  have xz3 := getD_mapD Rule_av s1 lz3
  try simp only [go_sem] at lz3
  try simp only [go_sem] at xz3
  try simp only [go_sem, n1, n2, n3, n4, z2] at z3
  all_goals
  obtain ⟨z4, h⟩ := ck_some h
  have lz4 := ix_lt z4
  have xz4 := getD_mapD Rule_av s2 lz4
  try simp only [go_sem] at lz4
  try simp only [go_sem] at xz4
  try simp only [go_sem, n1, n2, n3, n4, z2, z3] at z4
  all_goals
  rcases it_some h with ⟨z5, h⟩ | ⟨z5, h⟩
  ·try simp only [go_sem, n1, n2, n3, n4, z2, z3, z4] at z5
   all_goals
   obtain rfl := so_some h
   refine ⟨0, fun L hL => ?_⟩
   simp only [go_sem, ir67, E_82_l1, R_82_l1, ir67_b0, ir67_k0, ir67_o0, ir67_r0, z2, z3, lz3, xz3, z4, lz4, xz4, z5]
  ·try simp only [go_sem, n1, n2, n3, n4, z2, z3, z4] at z5
   all_goals
   obtain rfl := so_some h
   refine ⟨0, fun L hL => ?_⟩
   simp only [go_sem, ir67, E_82_l1, R_82_l1, ir67_b0, ir67_k0, ir67_o0, ir67_r0, z2, z3, lz3, xz3, z4, lz4, xz4, z5]
 ·try simp only [go_sem, n1, n2, n3, n4] at z2
  all_goals
  obtain rfl := so_some h
  refine ⟨0, fun L hL => ?_⟩
  simp only [go_sem, ir67, E_82_l1, R_82_l1, ir67_b0, ir67_k0, ir67_o0, ir67_r0, z2]

theorem Fs_82 {s1 : List Rule} {s2 : List Rule} {y_ : Bool} (h : slices_Equal_impl_Rule_impl_Rule s1 s2 = some y_) : c_82.F [.sl 6 (List.map Rule_av s1), .sl 6 (List.map Rule_av s2)] = ⟨true, .bool y_, [.any, .any]⟩ := by
 refine mkF_E rfl ?_
 dsimp only [slices_Equal_impl_Rule_impl_Rule] at h
 rcases it_some h with ⟨z1, h⟩ | ⟨z1, h⟩
 ·try simp only [go_sem, n1, n2, n3, n4] at z1
  all_goals
  obtain rfl := so_some h
  refine ⟨0, fun L hL => ?_⟩
  simp only [go_sem, ir67, E_82_l1, R_82_l1, ir67_k0, ir67_o0, ir67_r0, z1]
 ·try simp only [go_sem, n1, n2, n3, n4] at z1
  all_goals
  obtain ⟨y_6, z6, h⟩ := bd_some h
  obtain ⟨Lz6, ez6⟩ := slices_Equal_impl_Rule_impl_Rule_l1_ex z6
  rcases y_6 with y_6a | y_6b
  ·dsimp only at h
   obtain rfl := so_some h
   refine ⟨Lz6, fun L hL => ?_⟩
   have ez6 := ez6 L (by omega)
   try simp only [go_sem, E_82_l1, R_82_l1, ir67_k0, ir67_o0, ir67_r0, z1] at ez6
   simp only [go_sem, ir67, E_82_l1, R_82_l1, ir67_k0, ir67_o0, ir67_r0, z1, ez6]
  ·dsimp only at h
   obtain rfl := so_some h
   refine ⟨Lz6, fun L hL => ?_⟩
   have ez6 := ez6 L (by omega)
   try simp only [go_sem, E_82_l1, R_82_l1, ir67_k0, ir67_o0, ir67_r0, z1] at ez6
   simp only [go_sem, ir67, E_82_l1, R_82_l1, ir67_k0, ir67_o0, ir67_r0, z1, ez6]


def ir25_v : List Nat := [0, 1, 4]
def ir25 : AFn := ⟨2, 3, .seq (.region false [ VO 2 4 (.mov (.c (.bool false)))]) (.seq (.region false [ PM 5 0, PM 6 1, PO 7 (.call 67 [(.s 1), (.s 0)]), VS 2 4 0]) (.ret)), [.t 2]⟩
noncomputable def t_83 : List (Nat × Ctr) := [(67, c_82)]
theorem lk_83_67 : look t_83 67 = some c_82 := rfl
noncomputable def c_83 : Ctr := mkF t_83 ir25 [.bor, .bor]
theorem s_83 : Sound Tryz.prog 25 c_83 := mkF_sound _ rfl (snd_cons s_82 snd_nil) (by kernel_rfl : chkFn Tryz.prog 25 ir25 ir25_v = true)
theorem M_83 : c_83.modes = [.bor, .bor] := rfl
theorem Fl_83 : c_83.flat = true := rfl
attribute [go_sem] M_83 Fl_83
attribute [go_sem] lk_83_67
theorem Fs_83 {a : List Rule} {b : List Rule} {y_ : Bool} (h : impl_SameRules a b = some y_) : c_83.F [.sl 6 (List.map Rule_av a), .sl 6 (List.map Rule_av b)] = ⟨true, .bool y_, [.any, .any]⟩ := by
 refine mkF_E rfl ?_
 dsimp only [impl_SameRules] at h
 obtain ⟨y_1, z1, h⟩ := bd_some h
 have fz1 := Fs_82 z1
 try simp only [go_sem] at fz1
 obtain rfl := so_some h
 refine ⟨0, fun L hL => ?_⟩
 simp only [go_sem, ir25, fz1]


def ir27_v : List Nat := [0, 2]
def ir27 : AFn := ⟨1, 2, .seq (.region false [ VO 1 2 (.mov (.c (.bool false)))]) (.seq (.region false [ PM 3 0, PO 4 (.call 49 [(.s 0)]), VS 1 2 0]) (.ret)), [.t 1]⟩
noncomputable def t_84 : List (Nat × Ctr) := [(49, c_31)]
theorem lk_84_49 : look t_84 49 = some c_31 := rfl
noncomputable def c_84 : Ctr := mkF t_84 ir27 [.bor]
theorem s_84 : Sound Tryz.prog 27 c_84 := mkF_sound _ rfl (snd_cons s_31 snd_nil) (by kernel_rfl : chkFn Tryz.prog 27 ir27 ir27_v = true)
theorem M_84 : c_84.modes = [.bor] := rfl
theorem Fl_84 : c_84.flat = true := rfl
attribute [go_sem] M_84 Fl_84
attribute [go_sem] lk_84_49
theorem Fs_84 {list : List Rule} {y_ : Bool} (h : spec_ValidRules list = some y_) : c_84.F [.sl 6 (List.map Rule_av list)] = ⟨true, .bool y_, [.any]⟩ := by
 refine mkF_E rfl ?_
 dsimp only [spec_ValidRules] at h
 obtain ⟨y_1, z1, h⟩ := bd_some h
 have fz1 := Fs_31 z1
 try simp only [go_sem] at fz1
 obtain rfl := so_some h
 refine ⟨0, fun L hL => ?_⟩
 simp only [go_sem, ir27, fz1]


def ir3_v : List Nat := [0, 2, 3, 4, 5, 6, 7, 8, 9, 10, 11, 12, 13, 14, 15, 16, 17, 18, 19, 20, 21, 22, 23, 24, 25, 26, 27, 28, 29, 30, 31, 32, 33, 34, 35, 36, 37, 38]
def ir3 : AFn := ⟨1, 38, .seq (.region false [ VO 1 2 (.mov (.c (.bool false)))]) (.seq (.test false [ PM 39 0, PO 40 (.call 4 [(.s 0)])] (.s 0) (.seq (.region false [ VO 1 2 (.mov (.c (.bool true)))]) (.ret)) (.skip)) (.seq (.region false [ PM 42 0, PO 43 (.call 5 [(.s 0)]), PO 41 (.mov (.s 0)), PO 44 (.ext (.s 0) 0), PO 45 (.ext (.s 1) 1), VO 3 4 (.alloc (.agg [.int .i64 (0), .int .i64 (0), .int .i64 (0)])), VS 2 3 1, ⟨.no, 0, none, .store 3 (.v 3) (.s 0)⟩]) (.seq (.region false [ PM 47 2, PO 48 (.load true 3 (.v 3)), PO 49 (.call 6 [(.s 1), (.s 0)]), PO 46 (.mov (.s 0)), PO 50 (.ext (.s 0)
 0), PO 51 (.ext (.s 1) 1), VS 4 5 1, VS 5 6 0]) (.seq (.region false [ PM 53 2, PO 54 (.load true 3 (.v 3)), PO 55 (.call 7 [(.s 1), (.s 0)]), PO 52 (.mov (.s 0)), PO 56 (.ext (.s 0) 0), PO 57 (.ext (.s 1) 1), VS 6 7 1, VS 7 8 0]) (.seq (.region false [ PM 59 2, PO 60 (.load true 3 (.v 3)), PO 61 (.call 8 [(.s 1), (.s 0)]), PO 58 (.mov (.s 0)), PO 62 (.ext (.s 0) 0), PO 63 (.ext (.s 1) 1), VS 8 9 1, VS 9 10 0]) (.seq (.region false [ PM 65 2, PO 66 (.load true 3 (.v 3)), PO 67 (.call 9 [(.s 1), (.s 0)]), PO 64 (.mov (.s 0)), PO 68 (.ext (.s 0) 0), PO 69 (.ext (.s 1) 1), VS 10 11 1, VS 11 12
 0]) (.seq (.region false [ PM 71 0, PO 72 (.call 10 [(.s 0)]), PO 70 (.mov (.s 0)), PO 73 (.ext (.s 0) 0), PO 74 (.ext (.s 1) 1), VO 12 13 (.alloc (.agg [.str [], .int .i64 (0), .int .i64 (0), .int .i64 (0), .int .i64 (0), .int .i64 (0)])), VO 13 14 (.alloc (.agg [.int .i64 (0), .int .i64 (0), .int .i64 (0)])), ⟨.no, 0, none, .store 6 (.v 12) (.s 1)⟩, ⟨.no, 0, none, .store 3 (.v 13) (.s 0)⟩]) (.seq (.region false [ PO 76 (.load true 6 (.v 12)), PO 77 (.load true 3 (.v 13)), PO 78 (.call 11 [(.s 1), (.s 0)]), PO 75 (.mov (.s 0)), PO 79 (.ext (.s 0) 0), PO 80 (.ext (.s 1) 1), VS 14 15 1, VS 15
 16 0]) (.seq (.region false [ PO 82 (.load true 6 (.v 12)), PO 83 (.load true 3 (.v 13)), PO 84 (.call 12 [(.s 1), (.s 0)]), PO 81 (.mov (.s 0)), PO 85 (.ext (.s 0) 0), PO 86 (.ext (.s 1) 1), VS 16 17 1, VS 17 18 0]) (.seq (.region false [ PM 88 0, PO 89 (.call 13 [(.s 0)]), PO 87 (.mov (.s 0)), PO 90 (.ext (.s 0) 0), PO 91 (.ext (.s 1) 1), PO 92 (.ext (.s 2) 2), VS 18 19 2, VS 19 20 1, VS 20 21 0]) (.seq (.region false [ PM 94 18, PM 95 19, PM 96 20, PO 97 (.call 14 [(.s 2), (.s 1), (.s 0)]), PO 93 (.mov (.s 0)), PO 98 (.ext (.s 0) 0), PO 99 (.ext (.s 1) 1), VS 21 22 1, VS 22 23 0]) (.seq
 (.region false [ PM 101 18, PM 102 19, PM 103 20, PO 104 (.call 15 [(.s 2), (.s 1), (.s 0)]), PO 100 (.mov (.s 0)), PO 105 (.ext (.s 0) 0), PO 106 (.ext (.s 1) 1), VS 23 24 1, VS 24 25 0]) (.seq (.region false [ PM 107 0, PO 108 (.call 16 [(.s 0)]), VO 25 26 (.alloc (.agg [.str [], .int .i64 (0), .int .i64 (0), .int .i64 (0), .int .i64 (0), .int .i64 (0)])), ⟨.no, 0, none, .store 6 (.v 25) (.s 0)⟩]) (.seq (.region false [ PO 109 (.load true 6 (.v 25)), PO 110 (.call 17 [(.s 0)]), VS 26 27 0]) (.seq (.region false [ PM 112 26, PO 113 (.call 18 [(.s 0)]), PO 111 (.mov (.s 0)), PO 114 (.ext (.s
 0) 0), PO 115 (.ext (.s 1) 1), VO 27 28 (.alloc (.agg [.str [], .int .i64 (0), .int .i64 (0), .int .i64 (0), .int .i64 (0), .int .i64 (0)])), ⟨.no, 0, none, .store 6 (.v 27) (.s 1)⟩, VS 28 29 0]) (.seq (.region false [ PM 116 0, PO 117 (.call 19 [(.s 0)]), VS 29 30 0]) (.seq (.region false [ PM 119 29, PO 120 (.call 18 [(.s 0)]), PO 118 (.mov (.s 0)), PO 121 (.ext (.s 0) 0), PO 122 (.ext (.s 1) 1), VO 30 31 (.alloc (.agg [.str [], .int .i64 (0), .int .i64 (0), .int .i64 (0), .int .i64 (0), .int .i64 (0)])), ⟨.no, 0, none, .store 6 (.v 30) (.s 1)⟩, VS 31 32 0]) (.seq (.region false [ PM 124 29,
 PO 125 (.call 20 [(.s 0)]), PO 123 (.mov (.s 0)), PO 126 (.ext (.s 0) 0), PO 127 (.ext (.s 1) 1), VO 32 33 (.alloc (.agg [.str [], .int .i64 (0), .int .i64 (0), .int .i64 (0), .int .i64 (0), .int .i64 (0)])), ⟨.no, 0, none, .store 6 (.v 32) (.s 1)⟩, VS 33 34 0]) (.seq (.region false [ PM 129 0, PO 130 (.call 21 [(.s 0)]), PO 128 (.mov (.s 0)), PO 131 (.ext (.s 0) 0), PO 132 (.ext (.s 1) 1), VS 34 35 1, VS 35 36 0]) (.seq (.test false [ PM 133 5, PM 134 7, PO 135 (.bin false .neq (.s 1) (.s 0)), PO 136 (.mov (.s 0)), ⟨.push, 137, (some ((.s 0), false)), .mov (.v 4)⟩, ⟨.push, 138, (some ((.s 1),
 false)), .mov (.v 6)⟩, ⟨.push, 139, (some ((.s 2), false)), .bin false .neq (.s 1) (.s 0)⟩, PO 140 (.pick (.s 3) (.c (.bool true)) (.s 0)), PO 141 (.mov (.s 0)), ⟨.push, 142, (some ((.s 0), false)), .mov (.v 9)⟩, ⟨.push, 143, (some ((.s 1), false)), .mov (.v 11)⟩, ⟨.push, 144, (some ((.s 2), false)), .bin false .neq (.s 1) (.s 0)⟩, PO 145 (.pick (.s 3) (.c (.bool true)) (.s 0)), PO 146 (.mov (.s 0)), ⟨.push, 147, (some ((.s 0), false)), .mov (.v 8)⟩, ⟨.push, 148, (some ((.s 1), false)), .mov (.v 10)⟩, ⟨.push, 149, (some ((.s 2), false)), .call 22 [(.s 1), (.s 0)]⟩, ⟨.push, 150, (some ((.s 3),
 false)), .un .not (.s 0)⟩, PO 151 (.pick (.s 4) (.c (.bool true)) (.s 0)), PO 152 (.mov (.s 0)), ⟨.push, 153, (some ((.s 0), false)), .mov (.v 15)⟩, ⟨.push, 154, (some ((.s 1), false)), .mov (.v 17)⟩, ⟨.push, 155, (some ((.s 2), false)), .bin false .neq (.s 1) (.s 0)⟩, PO 156 (.pick (.s 3) (.c (.bool true)) (.s 0)), PO 157 (.mov (.s 0)), ⟨.push, 158, (some ((.s 0), false)), .mov (.v 14)⟩, ⟨.push, 159, (some ((.s 1), false)), .mov (.v 16)⟩, ⟨.push, 160, (some ((.s 2), false)), .bin true .neq (.s 1) (.s 0)⟩, PO 161 (.pick (.s 3) (.c (.bool true)) (.s 0)), PO 162 (.mov (.s 0)), ⟨.push, 163, (some
 ((.s 0), false)), .mov (.v 22)⟩, ⟨.push, 164, (some ((.s 1), false)), .mov (.v 24)⟩, ⟨.push, 165, (some ((.s 2), false)), .bin false .neq (.s 1) (.s 0)⟩, PO 166 (.pick (.s 3) (.c (.bool true)) (.s 0)), PO 167 (.mov (.s 0)), ⟨.push, 168, (some ((.s 0), false)), .mov (.v 21)⟩, ⟨.push, 169, (some ((.s 1), false)), .mov (.v 23)⟩, ⟨.push, 170, (some ((.s 2), false)), .call 23 [(.s 1), (.s 0)]⟩, ⟨.push, 171, (some ((.s 3), false)), .un .not (.s 0)⟩, PO 172 (.pick (.s 4) (.c (.bool true)) (.s 0)), PO 173 (.mov (.s 0)), ⟨.push, 174, (some ((.s 0), false)), .mov (.v 26)⟩, ⟨.push, 175, (some ((.s 1),
 false)), .load true 6 (.v 25)⟩, ⟨.push, 176, (some ((.s 2), false)), .call 24 [(.s 0)]⟩, ⟨.push, 177, (some ((.s 3), false)), .bin false .neq (.s 2) (.s 0)⟩, PO 178 (.pick (.s 4) (.c (.bool true)) (.s 0)), PO 179 (.mov (.s 0)), ⟨.push, 180, (some ((.s 0), false)), .mov (.v 28)⟩, ⟨.push, 181, (some ((.s 1), false)), .mov (.v 26)⟩, ⟨.push, 182, (some ((.s 2), false)), .bin false .neq (.s 0) (.c (.str []))⟩, ⟨.push, 183, (some ((.s 3), false)), .bin true .neq (.s 2) (.s 0)⟩, PO 184 (.pick (.s 4) (.c (.bool true)) (.s 0)), PO 185 (.mov (.s 0)), ⟨.push, 186, (some ((.s 0), false)), .mov (.v 28)⟩,
 ⟨.push, 187, (some ((.s 1), false)), .mov (.s 0)⟩, ⟨.push, 188, (some ((.s 0), true)), .load true 6 (.v 27)⟩, ⟨.push, 189, (some ((.s 1), true)), .load true 6 (.v 25)⟩, ⟨.push, 190, (some ((.s 2), true)), .eqA true [2, 1, 1, 1, 1, 1] (.s 1) (.s 0)⟩, ⟨.push, 191, (some ((.s 5), false)), .pick (.s 3) (.s 0) (.c (.bool false))⟩, PO 192 (.pick (.s 6) (.c (.bool true)) (.s 0)), PO 193 (.mov (.s 0)), ⟨.push, 194, (some ((.s 0), false)), .mov (.v 31)⟩, ⟨.push, 195, (some ((.s 1), false)), .mov (.v 33)⟩, ⟨.push, 196, (some ((.s 2), false)), .bin true .neq (.s 1) (.s 0)⟩, PO 197 (.pick (.s 3) (.c
 (.bool true)) (.s 0)), PO 198 (.mov (.s 0)), ⟨.push, 199, (some ((.s 0), false)), .load true 6 (.v 30)⟩, ⟨.push, 200, (some ((.s 1), false)), .load true 6 (.v 32)⟩, ⟨.push, 201, (some ((.s 2), false)), .eqA true [2, 1, 1, 1, 1, 1] (.s 1) (.s 0)⟩, PO 202 (.pick (.s 3) (.c (.bool true)) (.s 0)), PO 203 (.mov (.s 0)), ⟨.push, 204, (some ((.s 0), false)), .mov (.v 34)⟩, ⟨.push, 205, (some ((.s 1), false)), .mov (.v 35)⟩, ⟨.push, 206, (some ((.s 2), false)), .call 25 [(.s 1), (.s 0)]⟩, ⟨.push, 207, (some ((.s 3), false)), .mov (.v 34)⟩, ⟨.push, 208, (some ((.s 4), false)), .mov (.v 35)⟩, ⟨.push,
 209, (some ((.s 5), false)), .call 23 [(.s 1), (.s 0)]⟩, ⟨.push, 210, (some ((.s 6), false)), .bin true .neq (.s 3) (.s 0)⟩, PO 211 (.pick (.s 7) (.c (.bool true)) (.s 0)), PO 212 (.mov (.s 0)), ⟨.push, 213, (some ((.s 0), false)), .mov (.v 2)⟩, ⟨.push, 214, (some ((.s 1), false)), .call 26 [(.s 0)]⟩, ⟨.push, 215, (some ((.s 2), false)), .mov (.v 2)⟩, ⟨.push, 216, (some ((.s 3), false)), .call 27 [(.s 0)]⟩, ⟨.push, 217, (some ((.s 4), false)), .bin true .neq (.s 2) (.s 0)⟩, PO 218 (.pick (.s 5) (.c (.bool true)) (.s 0))] (.s 0) (.seq (.region false [ VO 1 2 (.mov (.c (.bool false)))]) (.ret))
 (.skip)) (.seq (.test false [ PM 219 22, PO 220 (.bin false .eql (.s 0) (I6 0))] (.s 0) (.seq (.region false [ PM 222 21, PM 223 20, PM 224 19, PO 225 (.call 14 [(.s 2), (.s 1), (.s 0)]), PO 221 (.mov (.s 0)), PO 226 (.ext (.s 0) 0), PO 227 (.ext (.s 1) 1), VS 36 37 1, VS 37 38 0]) (.test false [ PM 228 37, PO 229 (.bin false .neq (.s 0) (I6 0)), PO 230 (.mov (.s 0)), ⟨.push, 231, (some ((.s 0), false)), .mov (.v 36)⟩, ⟨.push, 232, (some ((.s 1), false)), .mov (.v 18)⟩, ⟨.push, 233, (some ((.s 2), false)), .call 23 [(.s 1), (.s 0)]⟩, ⟨.push, 234, (some ((.s 3), false)), .un .not (.s 0)⟩, PO
 235 (.pick (.s 4) (.c (.bool true)) (.s 0))] (.s 0) (.seq (.region false [ VO 1 2 (.mov (.c (.bool false)))]) (.ret)) (.skip))) (.skip)) (.seq (.test false [ PM 236 9, PO 237 (.bin false .neq (.s 0) (I6 0))] (.s 0) (.seq (.region false [ VO 1 2 (.mov (.c (.bool true)))]) (.ret)) (.skip)) (.seq (.test false [ PM 238 5, PO 239 (.bin false .neq (.s 0) (I6 0))] (.s 0) (.seq (.region false [ PM 240 10, PO 241 (.len false (.s 0)), PO 242 (.bin false .eql (.s 0) (I6 0)), VS 1 2 0]) (.ret)) (.skip)) (.seq (.region false [ PM 243 10, PO 244 (.len false (.s 0)), PO 245 (.bin false .gtr (.s 0) (I6 0)),
 PO 246 (.mov (.s 0)), ⟨.push, 247, (some ((.s 0), true)), .mov (.v 2)⟩, ⟨.push, 248, (some ((.s 1), true)), .mov (.v 10)⟩, ⟨.push, 249, (some ((.s 2), true)), .ixAddr 1 (.s 0) (I6 0)⟩, ⟨.push, 250, (some ((.s 3), true)), .load false 1 (.s 0)⟩, ⟨.push, 251, (some ((.s 4), true)), .ixAddr 6 (.s 3) (.s 0)⟩, ⟨.push, 252, (some ((.s 5), true)), .fldAddr 0 (.s 0)⟩, ⟨.push, 253, (some ((.s 6), true)), .load false 1 (.s 0)⟩, ⟨.push, 254, (some ((.s 7), true)), .mov (.v 4)⟩, ⟨.push, 255, (some ((.s 8), true)), .bin false .eql (.s 1) (.s 0)⟩, PO 256 (.pick (.s 9) (.s 0) (.c (.bool false))), VS 1 2 0])
 (.ret))))))))))))))))))))))))), [.t 1]⟩
noncomputable def t_laws_FnRules : List (Nat × Ctr) := [(4, c_0), (5, c_11), (6, c_24), (7, c_36), (8, c_39), (9, c_40), (10, c_42), (11, c_43), (12, c_44), (13, c_46), (14, c_51), (15, c_52), (16, c_53), (17, c_59), (18, c_68), (19, c_73), (20, c_77), (21, c_78), (22, c_79), (23, c_80), (24, c_81), (25, c_83), (26, c_18), (27, c_84)]
theorem lk_laws_FnRules_4 : look t_laws_FnRules 4 = some c_0 := rfl
theorem lk_laws_FnRules_5 : look t_laws_FnRules 5 = some c_11 := rfl
theorem lk_laws_FnRules_6 : look t_laws_FnRules 6 = some c_24 := rfl
theorem lk_laws_FnRules_7 : look t_laws_FnRules 7 = some c_36 := rfl
theorem lk_laws_FnRules_8 : look t_laws_FnRules 8 = some c_39 := rfl
theorem lk_laws_FnRules_9 : look t_laws_FnRules 9 = some c_40 := rfl
theorem lk_laws_FnRules_10 : look t_laws_FnRules 10 = some c_42 := rfl
theorem lk_laws_FnRules_11 : look t_laws_FnRules 11 = some c_43 := rfl
theorem lk_laws_FnRules_12 : look t_laws_FnRules 12 = some c_44 := rfl
theorem lk_laws_FnRules_13 : look t_laws_FnRules 13 = some c_46 := rfl
theorem lk_laws_FnRules_14 : look t_laws_FnRules 14 = some c_51 := rfl
theorem lk_laws_FnRules_15 : look t_laws_FnRules 15 = some c_52 := rfl
theorem lk_laws_FnRules_16 : look t_laws_FnRules 16 = some c_53 := rfl
theorem lk_laws_FnRules_17 : look t_laws_FnRules 17 = some c_59 := rfl
theorem lk_laws_FnRules_18 : look t_laws_FnRules 18 = some c_68 := rfl
theorem lk_laws_FnRules_19 : look t_laws_FnRules 19 = some c_73 := rfl
theorem lk_laws_FnRules_20 : look t_laws_FnRules 20 = some c_77 := rfl
theorem lk_laws_FnRules_21 : look t_laws_FnRules 21 = some c_78 := rfl
theorem lk_laws_FnRules_22 : look t_laws_FnRules 22 = some c_79 := rfl
theorem lk_laws_FnRules_23 : look t_laws_FnRules 23 = some c_80 := rfl
theorem lk_laws_FnRules_24 : look t_laws_FnRules 24 = some c_81 := rfl
theorem lk_laws_FnRules_25 : look t_laws_FnRules 25 = some c_83 := rfl
theorem lk_laws_FnRules_26 : look t_laws_FnRules 26 = some c_18 := rfl
theorem lk_laws_FnRules_27 : look t_laws_FnRules 27 = some c_84 := rfl
noncomputable def c_laws_FnRules : Ctr := mkF t_laws_FnRules ir3 [.bor]
theorem s_laws_FnRules : Sound Tryz.prog 3 c_laws_FnRules := mkF_sound _ rfl (snd_cons s_0 (snd_cons s_11 (snd_cons s_24 (snd_cons s_36 (snd_cons s_39 (snd_cons s_40 (snd_cons s_42 (snd_cons s_43 (snd_cons s_44 (snd_cons s_46 (snd_cons s_51 (snd_cons s_52 (snd_cons s_53 (snd_cons s_59 (snd_cons s_68 (snd_cons s_73 (snd_cons s_77 (snd_cons s_78 (snd_cons s_79 (snd_cons s_80 (snd_cons s_81 (snd_cons s_83 (snd_cons s_18 (snd_cons s_84 snd_nil)))))))))))))))))))))))) (by kernel_rfl : chkFn Tryz.prog 3 ir3 ir3_v = true)
theorem M_laws_FnRules : c_laws_FnRules.modes = [.bor] := rfl
theorem Fl_laws_FnRules : c_laws_FnRules.flat = true := rfl
attribute [go_sem] M_laws_FnRules Fl_laws_FnRules
attribute [go_sem] lk_laws_FnRules_4 lk_laws_FnRules_5 lk_laws_FnRules_6 lk_laws_FnRules_7 lk_laws_FnRules_8 lk_laws_FnRules_9 lk_laws_FnRules_10 lk_laws_FnRules_11 lk_laws_FnRules_12 lk_laws_FnRules_13 lk_laws_FnRules_14 lk_laws_FnRules_15 lk_laws_FnRules_16 lk_laws_FnRules_17 lk_laws_FnRules_18 lk_laws_FnRules_19 lk_laws_FnRules_20 lk_laws_FnRules_21 lk_laws_FnRules_22 lk_laws_FnRules_23 lk_laws_FnRules_24 lk_laws_FnRules_25 lk_laws_FnRules_26 lk_laws_FnRules_27
set_option maxHeartbeats 8000000 in
theorem Fs_laws_FnRules {code : List UInt8} {y_ : Bool} (h : laws_FnRules code = some y_) : c_laws_FnRules.F [.sl 1 (List.map byteAV code)] = ⟨true, .bool y_, [.any]⟩ := by
 refine mkF_E rfl ?_
 dsimp only [laws_FnRules] at h
 obtain ⟨y_1, z1, h⟩ := bd_some h
 have fz1 := Fs_0 z1
 try simp only [go_sem] at fz1
 rcases it_some h with ⟨z2, h⟩ | ⟨z2, h⟩
 ·try simp only [go_sem, n1, n2, n3, n4] at z2
  all_goals
  obtain rfl := so_some h
  refine ⟨0, fun L hL => ?_⟩
  simp only [go_sem, ir3, fz1, z2]
 ·try simp only [go_sem, n1, n2, n3, n4] at z2
  all_goals
  obtain ⟨y_3, z3, h⟩ := bd_some h
  have fz3 := Fs_11 z3
  try simp only [go_sem, z2] at fz3
  obtain ⟨y_4, z4, h⟩ := bd_some h
  have fz4 := Fs_24 z4
  try simp only [go_sem, z2] at fz4
  obtain ⟨y_5, z5, h⟩ := bd_some h
  have fz5 := Fs_36 z5
  try simp only [go_sem, z2] at fz5
  obtain ⟨y_6, z6, h⟩ := bd_some h
  have fz6 := Fs_39 z6
  try simp only [go_sem, z2] at fz6
  obtain ⟨y_7, z7, h⟩ := bd_some h
  have fz7 := Fs_40 z7
  try simp only [go_sem, z2] at fz7
  obtain ⟨y_8, z8, h⟩ := bd_some h
  have fz8 := Fs_42 z8
  try simp only [go_sem, z2] at fz8
  obtain ⟨y_9, z9, h⟩ := bd_some h
  have fz9 := Fs_43 z9
  try simp only [go_sem, z2] at fz9
  obtain ⟨y_10, z10, h⟩ := bd_some h
  have fz10 := Fs_44 z10
  try simp only [go_sem, z2] at fz10
  obtain ⟨y_11, z11, h⟩ := bd_some h
  have fz11 := Fs_46 z11
  try simp only [go_sem, z2] at fz11
  obtain ⟨y_12, z12, h⟩ := bd_some h
  have fz12 := Fs_51 z12
  try simp only [go_sem, z2] at fz12
  obtain ⟨y_13, z13, h⟩ := bd_some h
  have fz13 := Fs_52 z13
  try simp only [go_sem, z2] at fz13
  obtain ⟨y_14, z14, h⟩ := bd_some h
  have fz14 := Fs_53 z14
  try simp only [go_sem, z2] at fz14
  obtain ⟨y_15, z15, h⟩ := bd_some h
  have fz15 := Fs_59 z15
  try simp only [go_sem, z2] at fz15
  obtain ⟨y_16, z16, h⟩ := bd_some h
  have fz16 := Fs_68 z16
  try simp only [go_sem, z2] at fz16
  obtain ⟨y_17, z17, h⟩ := bd_some h
  have fz17 := Fs_73 z17
  try simp only [go_sem, z2] at fz17
  obtain ⟨y_18, z18, h⟩ := bd_some h
  have fz18 := Fs_68 z18
  try simp only [go_sem, z2] at fz18
  obtain ⟨y_19, z19, h⟩ := bd_some h
  have fz19 := Fs_77 z19
  try simp only [go_sem, z2] at fz19
  obtain ⟨y_20, z20, h⟩ := bd_some h
  have fz20 := Fs_78 z20
  try simp only [go_sem, z2] at fz20
  obtain ⟨z21, h⟩ := ck_some h
  rcases or_split z21 with ⟨gz21, z21⟩ | gz21
  ·try simp only [go_sem, n1, n2, n3, n4, z2] at gz21
   all_goals
   obtain ⟨y_21, hz21⟩ := Option.isSome_iff_exists.1 z21
   have fz21 := Fs_79 hz21
   try simp only [go_sem, n1, n2, n3, n4, z2, gz21] at hz21
   all_goals
   try simp only [go_sem, z2, gz21] at fz21
   obtain ⟨z22, h⟩ := ck_some h
   rcases or_split z22 with ⟨gz22, z22⟩ | gz22
   ·try simp only [go_sem, n1, n2, n3, n4, z2, gz21, hz21] at gz22
    all_goals
    obtain ⟨y_22, hz22⟩ := Option.isSome_iff_exists.1 z22
    have fz22 := Fs_80 hz22
    try simp only [go_sem, n1, n2, n3, n4, z2, gz21, hz21, gz22] at hz22
    all_goals
    try simp only [go_sem, z2, gz21, hz21, gz22] at fz22
    obtain ⟨z23, h⟩ := ck_some h
    rcases or_split z23 with ⟨gz23, z23⟩ | gz23
    ·try simp only [go_sem, n1, n2, n3, n4, z2, gz21, hz21, gz22, hz22] at gz23
     all_goals
     obtain ⟨y_23, hz23⟩ := Option.isSome_iff_exists.1 z23
     have fz23 := Fs_81 hz23
     try simp only [go_sem, n1, n2, n3, n4, z2, gz21, hz21, gz22, hz22, gz23] at hz23
     all_goals
     try simp only [go_sem, z2, gz21, hz21, gz22, hz22, gz23] at fz23
     obtain ⟨z24, h⟩ := ck_some h
     rcases or_split z24 with ⟨gz24, z24⟩ | gz24
     ·try simp only [go_sem, n1, n2, n3, n4, z2, gz21, hz21, gz22, hz22, gz23, hz23] at gz24
      all_goals
      obtain ⟨y_24, hz24⟩ := Option.isSome_iff_exists.1 z24
      have fz24 := Fs_83 hz24
      try simp only [go_sem, n1, n2, n3, n4, z2, gz21, hz21, gz22, hz22, gz23, hz23, gz24] at hz24
      all_goals
      try simp only [go_sem, z2, gz21, hz21, gz22, hz22, gz23, hz23, gz24] at fz24
      obtain ⟨z25, h⟩ := ck_some h
      rcases or_split z25 with ⟨gz25, z25⟩ | gz25
      ·try simp only [go_sem, n1, n2, n3, n4, z2, gz21, hz21, gz22, hz22, gz23, hz23, gz24, hz24] at gz25
       all_goals
       obtain ⟨y_25, hz25⟩ := Option.isSome_iff_exists.1 z25
       have fz25 := Fs_80 hz25
       try simp only [go_sem, n1, n2, n3, n4, z2, gz21, hz21, gz22, hz22, gz23, hz23, gz24, hz24, gz25] at hz25
       all_goals
       try simp only [go_sem, z2, gz21, hz21, gz22, hz22, gz23, hz23, gz24, hz24, gz25] at fz25
       obtain ⟨z26, h⟩ := ck_some h
       rcases or_split z26 with ⟨gz26, z26⟩ | gz26
       ·try simp only [go_sem, n1, n2, n3, n4, z2, gz21, hz21, gz22, hz22, gz23, hz23, gz24, hz24, gz25, hz25] at gz26
        all_goals
        obtain ⟨y_26, hz26⟩ := Option.isSome_iff_exists.1 z26
        have fz26 := Fs_18 hz26
        try simp only [go_sem, n1, n2, n3, n4, z2, gz21, hz21, gz22, hz22, gz23, hz23, gz24, hz24, gz25, hz25, gz26] at hz26
        all_goals
        try simp only [go_sem, z2, gz21, hz21, gz22, hz22, gz23, hz23, gz24, hz24, gz25, hz25, gz26] at fz26
        obtain ⟨z27, h⟩ := ck_some h
        rcases or_split z27 with ⟨gz27, z27⟩ | gz27
        ·try simp only [go_sem, n1, n2, n3, n4, z2, gz21, hz21, gz22, hz22, gz23, hz23, gz24, hz24, gz25, hz25, gz26, hz26] at gz27
         all_goals
         obtain ⟨y_27, hz27⟩ := Option.isSome_iff_exists.1 z27
         have fz27 := Fs_84 hz27
         try simp only [go_sem, n1, n2, n3, n4, z2, gz21, hz21, gz22, hz22, gz23, hz23, gz24, hz24, gz25, hz25, gz26, hz26, gz27] at hz27
         all_goals
         try simp only [go_sem, z2, gz21, hz21, gz22, hz22, gz23, hz23, gz24, hz24, gz25, hz25, gz26, hz26, gz27] at fz27
         rcases it_some h with ⟨z28, h⟩ | ⟨z28, h⟩
         ·try simp only [go_sem, n1, n2, n3, n4, z2, gz21, hz21, gz22, hz22, gz23, hz23, gz24, hz24, gz25, hz25, gz26, hz26, gz27, hz27] at z28
          all_goals
          obtain rfl := so_some h
          refine ⟨0, fun L hL => ?_⟩
          simp only [go_sem, ir3, fz1, z2, fz3, fz4, fz5, fz6, fz7, fz8, fz9, fz10, fz11, fz12, fz13, fz14, fz15, fz16, fz17, fz18, fz19, fz20, gz21, hz21, fz21, gz22, hz22, fz22, gz23, hz23, fz23, gz24, hz24, fz24, gz25, hz25, fz25, gz26, hz26, fz26, gz27, hz27, fz27, z28]
         ·try simp only [go_sem, n1, n2, n3, n4, z2, gz21, hz21, gz22, hz22, gz23, hz23, gz24, hz24, gz25, hz25, gz26, hz26, gz27, hz27] at z28
          all_goals
          rcases it_some h with ⟨z29, h⟩ | ⟨z29, h⟩
          ·try simp only [go_sem, n1, n2, n3, n4, z2, gz21, hz21, gz22, hz22, gz23, hz23, gz24, hz24, gz25, hz25, gz26, hz26, gz27, hz27, z28] at z29
           all_goals
           obtain ⟨y_30, z30, h⟩ := bd_some h
           have fz30 := Fs_51 z30
           try simp only [go_sem, z2, gz21, hz21, gz22, hz22, gz23, hz23, gz24, hz24, gz25, hz25, gz26, hz26, gz27, hz27, z28, z29] at fz30
           obtain ⟨z31, h⟩ := ck_some h
           rcases or_split z31 with ⟨gz31, z31⟩ | gz31
           ·try simp only [go_sem, n1, n2, n3, n4, z2, gz21, hz21, gz22, hz22, gz23, hz23, gz24, hz24, gz25, hz25, gz26, hz26, gz27, hz27, z28, z29] at gz31
            all_goals
            obtain ⟨y_31, hz31⟩ := Option.isSome_iff_exists.1 z31
            have fz31 := Fs_80 hz31
            try simp only [go_sem, n1, n2, n3, n4, z2, gz21, hz21, gz22, hz22, gz23, hz23, gz24, hz24, gz25, hz25, gz26, hz26, gz27, hz27, z28, z29, gz31] at hz31
            all_goals
            try simp only [go_sem, z2, gz21, hz21, gz22, hz22, gz23, hz23, gz24, hz24, gz25, hz25, gz26, hz26, gz27, hz27, z28, z29, gz31] at fz31
            rcases it_some h with ⟨z32, h⟩ | ⟨z32, h⟩
            ·try simp only [go_sem, n1, n2, n3, n4, z2, gz21, hz21, gz22, hz22, gz23, hz23, gz24, hz24, gz25, hz25, gz26, hz26, gz27, hz27, z28, z29, gz31, hz31] at z32
             all_goals
             obtain rfl := so_some h
             refine ⟨0, fun L hL => ?_⟩
             simp only [go_sem, ir3, fz1, z2, fz3, fz4, fz5, fz6, fz7, fz8, fz9, fz10, fz11, fz12, fz13, fz14, fz15, fz16, fz17, fz18, fz19, fz20, gz21, hz21, fz21, gz22, hz22, fz22, gz23, hz23, fz23, gz24, hz24, fz24, gz25, hz25, fz25, gz26, hz26, fz26, gz27, hz27, fz27, z28, z29, fz30, gz31, hz31, fz31, z32]
            ·try simp only [go_sem, n1, n2, n3, n4, z2, gz21, hz21, gz22, hz22, gz23, hz23, gz24, hz24, gz25, hz25, gz26, hz26, gz27, hz27, z28, z29, gz31, hz31] at z32
             all_goals
             rcases it_some h with ⟨z33, h⟩ | ⟨z33, h⟩
             ·try simp only [go_sem, n1, n2, n3, n4, z2, gz21, hz21, gz22, hz22, gz23, hz23, gz24, hz24, gz25, hz25, gz26, hz26, gz27, hz27, z28, z29, gz31, hz31, z32] at z33
              all_goals
              obtain rfl := so_some h
              refine ⟨0, fun L hL => ?_⟩
              simp only [go_sem, ir3, fz1, z2, fz3, fz4, fz5, fz6, fz7, fz8, fz9, fz10, fz11, fz12, fz13, fz14, fz15, fz16, fz17, fz18, fz19, fz20, gz21, hz21, fz21, gz22, hz22, fz22, gz23, hz23, fz23, gz24, hz24, fz24, gz25, hz25, fz25, gz26, hz26, fz26, gz27, hz27, fz27, z28, z29, fz30, gz31, hz31, fz31, z32, z33]
             ·try simp only [go_sem, n1, n2, n3, n4, z2, gz21, hz21, gz22, hz22, gz23, hz23, gz24, hz24, gz25, hz25, gz26, hz26, gz27, hz27, z28, z29, gz31, hz31, z32] at z33
              all_goals
              rcases it_some h with ⟨z34, h⟩ | ⟨z34, h⟩
              ·try simp only [go_sem, n1, n2, n3, n4, z2, gz21, hz21, gz22, hz22, gz23, hz23, gz24, hz24, gz25, hz25, gz26, hz26, gz27, hz27, z28, z29, gz31, hz31, z32, z33] at z34
               all_goals
               obtain rfl := so_some h
               refine ⟨0, fun L hL => ?_⟩
               simp only [go_sem, ir3, fz1, z2, fz3, fz4, fz5, fz6, fz7, fz8, fz9, fz10, fz11, fz12, fz13, fz14, fz15, fz16, fz17, fz18, fz19, fz20, gz21, hz21, fz21, gz22, hz22, fz22, gz23, hz23, fz23, gz24, hz24, fz24, gz25, hz25, fz25, gz26, hz26, fz26, gz27, hz27, fz27, z28, z29, fz30, gz31, hz31, fz31, z32, z33, z34]
              ·try simp only [go_sem, n1, n2, n3, n4, z2, gz21, hz21, gz22, hz22, gz23, hz23, gz24, hz24, gz25, hz25, gz26, hz26, gz27, hz27, z28, z29, gz31, hz31, z32, z33] at z34
               all_goals
               obtain ⟨z35, h⟩ := ck_some h
               rcases or_split z35 with ⟨gz35, z35⟩ | gz35
               ·try simp only [go_sem, n1, n2, n3, n4, z2, gz21, hz21, gz22, hz22, gz23, hz23, gz24, hz24, gz25, hz25, gz26, hz26, gz27, hz27, z28, z29, gz31, hz31, z32, z33, z34] at gz35
                all_goals
                have lz35 := ix_lt z35
                have xz35 := getD_mapD (AV.int .i64) y_7.1 lz35
                try simp only [go_sem] at lz35
                try simp only [go_sem] at xz35
                try simp only [go_sem, n1, n2, n3, n4, z2, gz21, hz21, gz22, hz22, gz23, hz23, gz24, hz24, gz25, hz25, gz26, hz26, gz27, hz27, z28, z29, gz31, hz31, z32, z33, z34, gz35] at z35
                all_goals
                obtain ⟨z36, h⟩ := ck_some h
                rcases or_split z36 with ⟨gz36, z36⟩ | gz36
                ·try simp only [go_sem, n1, n2, n3, n4, z2, gz21, hz21, gz22, hz22, gz23, hz23, gz24, hz24, gz25, hz25, gz26, hz26, gz27, hz27, z28, z29, gz31, hz31, z32, z33, z34, gz35, z35] at gz36
                 all_goals
                 have lz36 := ix_lt z36
                 have xz36 := getD_mapD Rule_av y_3.1 lz36
                 try simp only [go_sem] at lz36
                 try simp only [go_sem] at xz36
                 try simp only [go_sem, n1, n2, n3, n4, z2, gz21, hz21, gz22, hz22, gz23, hz23, gz24, hz24, gz25, hz25, gz26, hz26, gz27, hz27, z28, z29, gz31, hz31, z32, z33, z34, gz35, z35, gz36] at z36
                 all_goals
                 obtain rfl := so_some h
                 refine ⟨0, fun L hL => ?_⟩
                 simp only [go_sem, ir3, fz1, z2, fz3, fz4, fz5, fz6, fz7, fz8, fz9, fz10, fz11, fz12, fz13, fz14, fz15, fz16, fz17, fz18, fz19, fz20, gz21, hz21, fz21, gz22, hz22, fz22, gz23, hz23, fz23, gz24, hz24, fz24, gz25, hz25, fz25, gz26, hz26, fz26, gz27, hz27, fz27, z28, z29, fz30, gz31, hz31, fz31, z32, z33, z34, gz35, z35, lz35, xz35, gz36, z36, lz36, xz36]
                ·try simp only [go_sem, n1, n2, n3, n4, z2, gz21, hz21, gz22, hz22, gz23, hz23, gz24, hz24, gz25, hz25, gz26, hz26, gz27, hz27, z28, z29, gz31, hz31, z32, z33, z34, gz35, z35] at gz36
                 all_goals
                 obtain rfl := so_some h
                 refine ⟨0, fun L hL => ?_⟩
                 simp only [go_sem, ir3, fz1, z2, fz3, fz4, fz5, fz6, fz7, fz8, fz9, fz10, fz11, fz12, fz13, fz14, fz15, fz16, fz17, fz18, fz19, fz20, gz21, hz21, fz21, gz22, hz22, fz22, gz23, hz23, fz23, gz24, hz24, fz24, gz25, hz25, fz25, gz26, hz26, fz26, gz27, hz27, fz27, z28, z29, fz30, gz31, hz31, fz31, z32, z33, z34, gz35, z35, lz35, xz35, gz36]
               ·try simp only [go_sem, n1, n2, n3, n4, z2, gz21, hz21, gz22, hz22, gz23, hz23, gz24, hz24, gz25, hz25, gz26, hz26, gz27, hz27, z28, z29, gz31, hz31, z32, z33, z34] at gz35
                all_goals
                obtain ⟨z36, h⟩ := ck_some h
                obtain rfl := so_some h
                refine ⟨0, fun L hL => ?_⟩
                simp only [go_sem, ir3, fz1, z2, fz3, fz4, fz5, fz6, fz7, fz8, fz9, fz10, fz11, fz12, fz13, fz14, fz15, fz16, fz17, fz18, fz19, fz20, gz21, hz21, fz21, gz22, hz22, fz22, gz23, hz23, fz23, gz24, hz24, fz24, gz25, hz25, fz25, gz26, hz26, fz26, gz27, hz27, fz27, z28, z29, fz30, gz31, hz31, fz31, z32, z33, z34, gz35]
           ·have gz31n := no_f gz31
            have gz31nn := no_t gz31n
            try simp only [go_sem, n1, n2, n3, n4, z2, gz21, hz21, gz22, hz22, gz23, hz23, gz24, hz24, gz25, hz25, gz26, hz26, gz27, hz27, z28, z29] at gz31nn
            all_goals
            rcases it_some h with ⟨z32, h⟩ | ⟨z32, h⟩
            ·try simp only [go_sem, n1, n2, n3, n4, z2, gz21, hz21, gz22, hz22, gz23, hz23, gz24, hz24, gz25, hz25, gz26, hz26, gz27, hz27, z28, z29, gz31nn] at z32
             all_goals
             obtain rfl := so_some h
             refine ⟨0, fun L hL => ?_⟩
             simp only [go_sem, ir3, fz1, z2, fz3, fz4, fz5, fz6, fz7, fz8, fz9, fz10, fz11, fz12, fz13, fz14, fz15, fz16, fz17, fz18, fz19, fz20, gz21, hz21, fz21, gz22, hz22, fz22, gz23, hz23, fz23, gz24, hz24, fz24, gz25, hz25, fz25, gz26, hz26, fz26, gz27, hz27, fz27, z28, z29, fz30, gz31nn, z32]
            ·try simp only [go_sem, n1, n2, n3, n4, z2, gz21, hz21, gz22, hz22, gz23, hz23, gz24, hz24, gz25, hz25, gz26, hz26, gz27, hz27, z28, z29, gz31nn] at z32
             all_goals
             (simp_all)
          ·try simp only [go_sem, n1, n2, n3, n4, z2, gz21, hz21, gz22, hz22, gz23, hz23, gz24, hz24, gz25, hz25, gz26, hz26, gz27, hz27, z28] at z29
           all_goals
           rcases it_some h with ⟨z37, h⟩ | ⟨z37, h⟩
           ·try simp only [go_sem, n1, n2, n3, n4, z2, gz21, hz21, gz22, hz22, gz23, hz23, gz24, hz24, gz25, hz25, gz26, hz26, gz27, hz27, z28, z29] at z37
            all_goals
            obtain rfl := so_some h
            refine ⟨0, fun L hL => ?_⟩
            simp only [go_sem, ir3, fz1, z2, fz3, fz4, fz5, fz6, fz7, fz8, fz9, fz10, fz11, fz12, fz13, fz14, fz15, fz16, fz17, fz18, fz19, fz20, gz21, hz21, fz21, gz22, hz22, fz22, gz23, hz23, fz23, gz24, hz24, fz24, gz25, hz25, fz25, gz26, hz26, fz26, gz27, hz27, fz27, z28, z29, z37]
           ·try simp only [go_sem, n1, n2, n3, n4, z2, gz21, hz21, gz22, hz22, gz23, hz23, gz24, hz24, gz25, hz25, gz26, hz26, gz27, hz27, z28, z29] at z37
            all_goals
            rcases it_some h with ⟨z38, h⟩ | ⟨z38, h⟩
            ·try simp only [go_sem, n1, n2, n3, n4, z2, gz21, hz21, gz22, hz22, gz23, hz23, gz24, hz24, gz25, hz25, gz26, hz26, gz27, hz27, z28, z29, z37] at z38
             all_goals
             obtain rfl := so_some h
             refine ⟨0, fun L hL => ?_⟩
             simp only [go_sem, ir3, fz1, z2, fz3, fz4, fz5, fz6, fz7, fz8, fz9, fz10, fz11, fz12, fz13, fz14, fz15, fz16, fz17, fz18, fz19, fz20, gz21, hz21, fz21, gz22, hz22, fz22, gz23, hz23, fz23, gz24, hz24, fz24, gz25, hz25, fz25, gz26, hz26, fz26, gz27, hz27, fz27, z28, z29, z37, z38]
            ·try simp only [go_sem, n1, n2, n3, n4, z2, gz21, hz21, gz22, hz22, gz23, hz23, gz24, hz24, gz25, hz25, gz26, hz26, gz27, hz27, z28, z29, z37] at z38
             all_goals
             obtain ⟨z39, h⟩ := ck_some h
             rcases or_split z39 with ⟨gz39, z39⟩ | gz39
             ·try simp only [go_sem, n1, n2, n3, n4, z2, gz21, hz21, gz22, hz22, gz23, hz23, gz24, hz24, gz25, hz25, gz26, hz26, gz27, hz27, z28, z29, z37, z38] at gz39
              all_goals
              have lz39 := ix_lt z39
              have xz39 := getD_mapD (AV.int .i64) y_7.1 lz39
              try simp only [go_sem] at lz39
              try simp only [go_sem] at xz39
              try simp only [go_sem, n1, n2, n3, n4, z2, gz21, hz21, gz22, hz22, gz23, hz23, gz24, hz24, gz25, hz25, gz26, hz26, gz27, hz27, z28, z29, z37, z38, gz39] at z39
              all_goals
              obtain ⟨z40, h⟩ := ck_some h
              rcases or_split z40 with ⟨gz40, z40⟩ | gz40
              ·try simp only [go_sem, n1, n2, n3, n4, z2, gz21, hz21, gz22, hz22, gz23, hz23, gz24, hz24, gz25, hz25, gz26, hz26, gz27, hz27, z28, z29, z37, z38, gz39, z39] at gz40
               all_goals
               have lz40 := ix_lt z40
               have xz40 := getD_mapD Rule_av y_3.1 lz40
               try simp only [go_sem] at lz40
               try simp only [go_sem] at xz40
               try simp only [go_sem, n1, n2, n3, n4, z2, gz21, hz21, gz22, hz22, gz23, hz23, gz24, hz24, gz25, hz25, gz26, hz26, gz27, hz27, z28, z29, z37, z38, gz39, z39, gz40] at z40
               all_goals
               obtain rfl := so_some h
               refine ⟨0, fun L hL => ?_⟩
               simp only [go_sem, ir3, fz1, z2, fz3, fz4, fz5, fz6, fz7, fz8, fz9, fz10, fz11, fz12, fz13, fz14, fz15, fz16, fz17, fz18, fz19, fz20, gz21, hz21, fz21, gz22, hz22, fz22, gz23, hz23, fz23, gz24, hz24, fz24, gz25, hz25, fz25, gz26, hz26, fz26, gz27, hz27, fz27, z28, z29, z37, z38, gz39, z39, lz39, xz39, gz40, z40, lz40, xz40]
              ·try simp only [go_sem, n1, n2, n3, n4, z2, gz21, hz21, gz22, hz22, gz23, hz23, gz24, hz24, gz25, hz25, gz26, hz26, gz27, hz27, z28, z29, z37, z38, gz39, z39] at gz40
               all_goals
               obtain rfl := so_some h
               refine ⟨0, fun L hL => ?_⟩
               simp only [go_sem, ir3, fz1, z2, fz3, fz4, fz5, fz6, fz7, fz8, fz9, fz10, fz11, fz12, fz13, fz14, fz15, fz16, fz17, fz18, fz19, fz20, gz21, hz21, fz21, gz22, hz22, fz22, gz23, hz23, fz23, gz24, hz24, fz24, gz25, hz25, fz25, gz26, hz26, fz26, gz27, hz27, fz27, z28, z29, z37, z38, gz39, z39, lz39, xz39, gz40]
             ·try simp only [go_sem, n1, n2, n3, n4, z2, gz21, hz21, gz22, hz22, gz23, hz23, gz24, hz24, gz25, hz25, gz26, hz26, gz27, hz27, z28, z29, z37, z38] at gz39
              all_goals
              obtain ⟨z40, h⟩ := ck_some h
              obtain rfl := so_some h
              refine ⟨0, fun L hL => ?_⟩
              simp only [go_sem, ir3, fz1, z2, fz3, fz4, fz5, fz6, fz7, fz8, fz9, fz10, fz11, fz12, fz13, fz14, fz15, fz16, fz17, fz18, fz19, fz20, gz21, hz21, fz21, gz22, hz22, fz22, gz23, hz23, fz23, gz24, hz24, fz24, gz25, hz25, fz25, gz26, hz26, fz26, gz27, hz27, fz27, z28, z29, z37, z38, gz39]
        ·have gz27n := no_f gz27
         try simp only [go_sem, n1, n2, n3, n4, z2, gz21, hz21, gz22, hz22, gz23, hz23, gz24, hz24, gz25, hz25, gz26, hz26] at gz27n
         all_goals
         rcases it_some h with ⟨z28, h⟩ | ⟨z28, h⟩
         ·try simp only [go_sem, n1, n2, n3, n4, z2, gz21, hz21, gz22, hz22, gz23, hz23, gz24, hz24, gz25, hz25, gz26, hz26, gz27n] at z28
          all_goals
          obtain rfl := so_some h
          refine ⟨0, fun L hL => ?_⟩
          simp only [go_sem, ir3, fz1, z2, fz3, fz4, fz5, fz6, fz7, fz8, fz9, fz10, fz11, fz12, fz13, fz14, fz15, fz16, fz17, fz18, fz19, fz20, gz21, hz21, fz21, gz22, hz22, fz22, gz23, hz23, fz23, gz24, hz24, fz24, gz25, hz25, fz25, gz26, hz26, fz26, gz27n, z28]
         ·try simp only [go_sem, n1, n2, n3, n4, z2, gz21, hz21, gz22, hz22, gz23, hz23, gz24, hz24, gz25, hz25, gz26, hz26, gz27n] at z28
          all_goals
          (simp_all)
       ·have gz26n := no_f gz26
        try simp only [go_sem, n1, n2, n3, n4, z2, gz21, hz21, gz22, hz22, gz23, hz23, gz24, hz24, gz25, hz25] at gz26n
        all_goals
        obtain ⟨z27, h⟩ := ck_some h
        rcases it_some h with ⟨z28, h⟩ | ⟨z28, h⟩
        ·try simp only [go_sem, n1, n2, n3, n4, z2, gz21, hz21, gz22, hz22, gz23, hz23, gz24, hz24, gz25, hz25, gz26n] at z28
         all_goals
         obtain rfl := so_some h
         refine ⟨0, fun L hL => ?_⟩
         simp only [go_sem, ir3, fz1, z2, fz3, fz4, fz5, fz6, fz7, fz8, fz9, fz10, fz11, fz12, fz13, fz14, fz15, fz16, fz17, fz18, fz19, fz20, gz21, hz21, fz21, gz22, hz22, fz22, gz23, hz23, fz23, gz24, hz24, fz24, gz25, hz25, fz25, gz26n, z28]
        ·try simp only [go_sem, n1, n2, n3, n4, z2, gz21, hz21, gz22, hz22, gz23, hz23, gz24, hz24, gz25, hz25, gz26n] at z28
         all_goals
         (simp_all)
      ·have gz25n := no_f gz25
       try simp only [go_sem, n1, n2, n3, n4, z2, gz21, hz21, gz22, hz22, gz23, hz23, gz24, hz24] at gz25n
       all_goals
       obtain ⟨z26, h⟩ := ck_some h
       obtain ⟨z27, h⟩ := ck_some h
       rcases it_some h with ⟨z28, h⟩ | ⟨z28, h⟩
       ·try simp only [go_sem, n1, n2, n3, n4, z2, gz21, hz21, gz22, hz22, gz23, hz23, gz24, hz24, gz25n] at z28
        all_goals
        obtain rfl := so_some h
        refine ⟨0, fun L hL => ?_⟩
        simp only [go_sem, ir3, fz1, z2, fz3, fz4, fz5, fz6, fz7, fz8, fz9, fz10, fz11, fz12, fz13, fz14, fz15, fz16, fz17, fz18, fz19, fz20, gz21, hz21, fz21, gz22, hz22, fz22, gz23, hz23, fz23, gz24, hz24, fz24, gz25n, z28]
       ·try simp only [go_sem, n1, n2, n3, n4, z2, gz21, hz21, gz22, hz22, gz23, hz23, gz24, hz24, gz25n] at z28
        all_goals
        (simp_all)
     ·have gz24n := no_f gz24
      try simp only [go_sem, n1, n2, n3, n4, z2, gz21, hz21, gz22, hz22, gz23, hz23] at gz24n
      all_goals
      obtain ⟨z25, h⟩ := ck_some h
      obtain ⟨z26, h⟩ := ck_some h
      obtain ⟨z27, h⟩ := ck_some h
      rcases it_some h with ⟨z28, h⟩ | ⟨z28, h⟩
      ·try simp only [go_sem, n1, n2, n3, n4, z2, gz21, hz21, gz22, hz22, gz23, hz23, gz24n] at z28
       all_goals
       obtain rfl := so_some h
       refine ⟨0, fun L hL => ?_⟩
       simp only [go_sem, ir3, fz1, z2, fz3, fz4, fz5, fz6, fz7, fz8, fz9, fz10, fz11, fz12, fz13, fz14, fz15, fz16, fz17, fz18, fz19, fz20, gz21, hz21, fz21, gz22, hz22, fz22, gz23, hz23, fz23, gz24n, z28]
      ·try simp only [go_sem, n1, n2, n3, n4, z2, gz21, hz21, gz22, hz22, gz23, hz23, gz24n] at z28
       all_goals
       (simp_all)
    ·have gz23n := no_f gz23
     try simp only [go_sem, n1, n2, n3, n4, z2, gz21, hz21, gz22, hz22] at gz23n
     all_goals
     obtain ⟨z24, h⟩ := ck_some h
     obtain ⟨z25, h⟩ := ck_some h
     obtain ⟨z26, h⟩ := ck_some h
     obtain ⟨z27, h⟩ := ck_some h
     rcases it_some h with ⟨z28, h⟩ | ⟨z28, h⟩
     ·try simp only [go_sem, n1, n2, n3, n4, z2, gz21, hz21, gz22, hz22, gz23n] at z28
      all_goals
      obtain rfl := so_some h
      refine ⟨0, fun L hL => ?_⟩
      simp only [go_sem, ir3, fz1, z2, fz3, fz4, fz5, fz6, fz7, fz8, fz9, fz10, fz11, fz12, fz13, fz14, fz15, fz16, fz17, fz18, fz19, fz20, gz21, hz21, fz21, gz22, hz22, fz22, gz23n, z28]
     ·try simp only [go_sem, n1, n2, n3, n4, z2, gz21, hz21, gz22, hz22, gz23n] at z28
      all_goals
      (simp_all)
   ·have gz22n := no_f gz22
    try simp only [go_sem, n1, n2, n3, n4, z2, gz21, hz21] at gz22n
    all_goals
    obtain ⟨z23, h⟩ := ck_some h
    obtain ⟨z24, h⟩ := ck_some h
    obtain ⟨z25, h⟩ := ck_some h
    obtain ⟨z26, h⟩ := ck_some h
    obtain ⟨z27, h⟩ := ck_some h
    rcases it_some h with ⟨z28, h⟩ | ⟨z28, h⟩
    ·try simp only [go_sem, n1, n2, n3, n4, z2, gz21, hz21, gz22n] at z28
     all_goals
     obtain rfl := so_some h
     refine ⟨0, fun L hL => ?_⟩
     simp only [go_sem, ir3, fz1, z2, fz3, fz4, fz5, fz6, fz7, fz8, fz9, fz10, fz11, fz12, fz13, fz14, fz15, fz16, fz17, fz18, fz19, fz20, gz21, hz21, fz21, gz22n, z28]
    ·try simp only [go_sem, n1, n2, n3, n4, z2, gz21, hz21, gz22n] at z28
     all_goals
     (simp_all)
  ·have gz21n := no_f gz21
   rcases or_t gz21n with gz21na | ⟨gz21na, gz21nb⟩
   ·rcases or_t gz21na with gz21naa | ⟨gz21naa, gz21nab⟩
    ·have gz21naan := no_t gz21naa
     try simp only [go_sem, n1, n2, n3, n4, z2] at gz21naan
     all_goals
     obtain ⟨z22, h⟩ := ck_some h
     obtain ⟨z23, h⟩ := ck_some h
     obtain ⟨z24, h⟩ := ck_some h
     obtain ⟨z25, h⟩ := ck_some h
     obtain ⟨z26, h⟩ := ck_some h
     obtain ⟨z27, h⟩ := ck_some h
     rcases it_some h with ⟨z28, h⟩ | ⟨z28, h⟩
     ·try simp only [go_sem, n1, n2, n3, n4, z2, gz21naan] at z28
      all_goals
      obtain rfl := so_some h
      refine ⟨0, fun L hL => ?_⟩
      simp only [go_sem, ir3, fz1, z2, fz3, fz4, fz5, fz6, fz7, fz8, fz9, fz10, fz11, fz12, fz13, fz14, fz15, fz16, fz17, fz18, fz19, fz20, gz21naan, z28]
     ·try simp only [go_sem, n1, n2, n3, n4, z2, gz21naan] at z28
      all_goals
      (simp_all)
    ·have gz21naan := no_f gz21naa
     have gz21nabn := no_t gz21nab
     try simp only [go_sem, n1, n2, n3, n4, z2] at gz21naan
     all_goals
     try simp only [go_sem, n1, n2, n3, n4, z2, gz21naan] at gz21nabn
     all_goals
     obtain ⟨z22, h⟩ := ck_some h
     obtain ⟨z23, h⟩ := ck_some h
     obtain ⟨z24, h⟩ := ck_some h
     obtain ⟨z25, h⟩ := ck_some h
     obtain ⟨z26, h⟩ := ck_some h
     obtain ⟨z27, h⟩ := ck_some h
     rcases it_some h with ⟨z28, h⟩ | ⟨z28, h⟩
     ·try simp only [go_sem, n1, n2, n3, n4, z2, gz21naan, gz21nabn] at z28
      all_goals
      obtain rfl := so_some h
      refine ⟨0, fun L hL => ?_⟩
      simp only [go_sem, ir3, fz1, z2, fz3, fz4, fz5, fz6, fz7, fz8, fz9, fz10, fz11, fz12, fz13, fz14, fz15, fz16, fz17, fz18, fz19, fz20, gz21naan, gz21nabn, z28]
     ·try simp only [go_sem, n1, n2, n3, n4, z2, gz21naan, gz21nabn] at z28
      all_goals
      (simp_all)
   ·obtain ⟨gz21naa, gz21nab⟩ := or_f gz21na
    have gz21naan := no_f gz21naa
    have gz21nabn := no_f gz21nab
    have gz21nbn := no_t gz21nb
    try simp only [go_sem, n1, n2, n3, n4, z2] at gz21naan
    all_goals
    try simp only [go_sem, n1, n2, n3, n4, z2, gz21naan] at gz21nabn
    all_goals
    try simp only [go_sem, n1, n2, n3, n4, z2, gz21naan, gz21nabn] at gz21nbn
    all_goals
    obtain ⟨z22, h⟩ := ck_some h
    obtain ⟨z23, h⟩ := ck_some h
    obtain ⟨z24, h⟩ := ck_some h
    obtain ⟨z25, h⟩ := ck_some h
    obtain ⟨z26, h⟩ := ck_some h
    obtain ⟨z27, h⟩ := ck_some h
    rcases it_some h with ⟨z28, h⟩ | ⟨z28, h⟩
    ·try simp only [go_sem, n1, n2, n3, n4, z2, gz21naan, gz21nabn, gz21nbn] at z28
     all_goals
     obtain rfl := so_some h
     refine ⟨0, fun L hL => ?_⟩
     simp only [go_sem, ir3, fz1, z2, fz3, fz4, fz5, fz6, fz7, fz8, fz9, fz10, fz11, fz12, fz13, fz14, fz15, fz16, fz17, fz18, fz19, fz20, gz21naan, gz21nabn, gz21nbn, z28]
    ·try simp only [go_sem, n1, n2, n3, n4, z2, gz21naan, gz21nabn, gz21nbn] at z28
     all_goals
     (simp_all)


end Go.Proofs.YtelkmhdolnjnpaaGreatDoor
