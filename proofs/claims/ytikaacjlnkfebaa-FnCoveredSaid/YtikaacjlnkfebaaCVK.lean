/- Codes and contracts of the functions that CV reaches, and that their typed forms say what they do. No condition. -/
import Derived.Test.YtikaacjlnkfebaaCVKa
import Derived.Test.YtikaacjlnkfebaaRows
import Derived.WalkKit
namespace Go.Proofs.Ytikaacjlnkfebaa
open Go Go.RowKit
set_option linter.unusedVariables false
set_option linter.unusedSimpArgs false
set_option maxRecDepth 10000

def ir11_b1 : IR := .seq (.test false [ PM 39 10, PM 40 0, PO 41 (.len false (.s 0)), PO 42 (.bin false .lss (.s 2) (.s 0))] (.s 0) (.skip) (.exit 2)) (.seq (.block 3 (.test false [ PM 45 0, PM 46 10, PO 47 (.ixAddr 5 (.s 1) (.s 0)), PO 48 (.fldAddr 4 (.s 0)), PO 49 (.load false 1 (.s 0)), PO 50 (.bin false .gtr (.s 0) (I6 0)), PO 51 (.mov (.s 0)), ⟨.push, 52, (some ((.s 0), true)), .mov (.v 0)⟩, ⟨.push, 53, (some ((.s 1), true)), .mov (.v 10)⟩, ⟨.push, 54, (some ((.s 2), true)), .ixAddr 5 (.s 1) (.s 0)⟩, ⟨.push, 55, (some ((.s 3), true)), .fldAddr 1 (.s 0)⟩, ⟨.push, 56, (some ((.s 4), true)),
 .load false 1 (.s 0)⟩, ⟨.push, 57, (some ((.s 5), true)), .mov (.v 7)⟩, ⟨.push, 58, (some ((.s 6), true)), .bin false .gtr (.s 1) (.s 0)⟩, PO 59 (.pick (.s 7) (.s 0) (.c (.bool false)))] (.s 0) (.region false [ PM 60 9, PM 61 0, PM 62 10, PO 63 (.ixAddr 5 (.s 1) (.s 0)), PO 64 (.fldAddr 1 (.s 0)), PO 65 (.load false 1 (.s 0)), PO 66 (.call 48 [(.s 5), (.s 0)]), VS 9 12 0]) (.skip))) (.region false [ PM 43 10, PO 44 (.bin false .add (.s 0) (I6 1)), VS 10 13 0]))
def ir11_k1 : List Bool := [true, false, true, false, false, false, true, true, false, true, true]
def ir11_o1 : List Bool := [true, false, true, false, false, false, true, true, false, true, false]
def ir11_r1 : List Bool := [false, false, false, true, true, false, false, false, false, false, false]
def ir11_b0 : IR := .seq (.test false [ PM 23 7, PM 24 2, PO 25 (.bin false .leq (.s 1) (.s 0))] (.s 0) (.skip) (.exit 0)) (.block 1 (.seq (.region false [ PM 26 0, PM 27 7, PO 28 (.call 45 [(.s 1), (.s 0)]), VS 8 11 0]) (.seq (.test false [ PM 29 8, PO 30 (.bin false .geq (.s 0) (I6 0))] (.s 0) (.seq (.region false [ PM 31 0, PM 32 8, PO 33 (.ixAddr 5 (.s 1) (.s 0)), PO 34 (.fldAddr 2 (.s 0)), PO 35 (.load false 1 (.s 0)), PO 36 (.bin false .add (.s 0) (I6 1)), VS 7 10 0]) (.exit 1)) (.skip)) (.seq (.region false [ PM 37 2, PO 38 (.bin false .add (.s 0) (I6 1)), VS 9 12 0]) (.seq (.seq
 (.region false [ VO 10 13 (.mov (I6 0))]) (.block 2 (.loop ir11_k1 ir11_o1 ir11_r1 ir11_b1))) (.seq (.region false [ PM 67 6, PM 68 7, PM 69 9, PO 70 (.bin false .sub (.s 0) (I6 1)), PO 71 (.build [.int .i64 (0), .int .i64 (0)] [(0, 1, (.s 2)), (1, 1, (.s 0))]), PO 72 (.mkSl 2 (.agg [.int .i64 (0), .int .i64 (0)]) 1 [(0, (.s 0))]), PO 73 (.app 2 16 (.agg [.int .i64 (0), .int .i64 (0)]) (.s 5) (.s 0)), VS 6 9 0]) (.region false [ PM 74 9, VS 7 10 0])))))))
def ir11_k0 : List Bool := [true, false, true, false, false, false, true, true, false, false, false]
def ir11_o0 : List Bool := [false, false, false, false, false, false, true, false, false, false, false]
def ir11_r0 : List Bool := [false, false, false, true, true, false, false, false, false, false, false]
def ir11_v : List Nat := [0, 1, 2, 6, 7, 8, 9, 10, 11, 12, 13]
def ir11 : AFn := ⟨3, 11, .seq (.region false [ VO 3 6 (.newnil 2), VO 4 7 (.mov (I6 0))]) (.seq (.region false [ PM 14 0, PM 15 1, PM 16 2, PO 17 (.call 44 [(.s 2), (.s 1), (.s 0)]), VS 5 8 0]) (.seq (.test false [ PM 18 5, PO 19 (.bin false .neq (.s 0) (I6 0))] (.s 0) (.seq (.region false [ PM 20 5, VO 3 6 (.newnil 2), VS 4 7 0]) (.ret)) (.skip)) (.seq (.region false [ PO 21 (.mkSl 2 (.agg [.int .i64 (0), .int .i64 (0)]) 0 []), VS 6 9 0]) (.seq (.seq (.region false [ PM 22 1, VS 7 10 0]) (.block 0 (.loop ir11_k0 ir11_o0 ir11_r0 ir11_b0))) (.seq (.test false [ PM 75 6, PO 76 (.len false (.s
 0)), PO 77 (.bin false .gtr (.s 0) (I6 30))] (.s 0) (.seq (.region false [ VO 3 6 (.newnil 2), VO 4 7 (.mov (I6 5))]) (.ret)) (.skip)) (.seq (.region false [ PM 78 6, VS 3 6 0, VO 4 7 (.mov (I6 0))]) (.ret))))))), [.t 3, .t 4]⟩
noncomputable def t_50 : List (Nat × Ctr) := [(44, c_29), (45, c_30), (48, c_49)]
theorem lk_50_44 : look t_50 44 = some c_29 := rfl
theorem lk_50_45 : look t_50 45 = some c_30 := rfl
theorem lk_50_48 : look t_50 48 = some c_49 := rfl
noncomputable def c_50 : Ctr := mkF t_50 ir11 [.bor, .bor, .bor]
theorem s_50 : Sound Try.prog 11 c_50 := mkF_sound _ rfl (snd_cons s_29 (snd_cons s_30 (snd_cons s_49 snd_nil))) (by kernel_rfl : chkFn Try.prog 11 ir11 ir11_v = true)
theorem M_50 : c_50.modes = [.bor, .bor, .bor] := rfl
theorem Fl_50 : c_50.flat = true := rfl
attribute [go_sem] M_50 Fl_50
attribute [go_sem] lk_50_44 lk_50_45 lk_50_48
def E_50_l2 (list : List Volume) (to_ : Int) (out : List Window) (t : Int) : (Int × Int) → St
 | (next_, i) => ⟨[.sl 5 (List.map Volume_av list), .any, .int .i64 to_, .any, .any, .any, .own 3200000, .int .i64 t, .any, .int .i64 next_, .int .i64 i], [], [(3200000, ⟨2, List.map Window_av out⟩)], true⟩
def R_50_l2 (list : List Volume) (to_ : Int) (out : List Window) (t : Int) (y : Int) : Res := (.exit 2, ⟨[.sl 5 (List.map Volume_av list), .any, .int .i64 to_, .any, .any, .any, .own 3200000, .int .i64 t, .any, .int .i64 y, .any], [], [(3200000, ⟨2, List.map Window_av out⟩)], true⟩)
theorem spec_GapsOfArchive_l2_ex {list : List Volume} {to_ : Int} {out : List Window} {t : Int} {sgm_ : Int × Int} {rho_ : Int} (h : whileE (spec_GapsOfArchive_l2 list to_ out t) sgm_ = some rho_) : ∃ L0, ∀ L, L0 ≤ L → iter (exec (look t_50) L ir11_b1) ir11_k1 ir11_o1 ir11_r1 L (E_50_l2 list to_ out t sgm_) = R_50_l2 list to_ out t rho_ := by
 refine loop_ex (E := E_50_l2 list to_ out t) (R := R_50_l2 list to_ out t) (fun y => by first | (intro c; cases c) | (rcases y with y | y <;> (intro c; cases c)) | (rcases y with y | y | y <;> (intro c; cases c))) ?_ h
 clear h
 rintro ⟨next_, i⟩ o_ h
 dsimp only [spec_GapsOfArchive_l2] at h
 rcases it_some h with ⟨z7, h⟩ | ⟨z7, h⟩
 ·try simp only [go_sem, n1, n2, n3, n4] at z7
  all_goals
  obtain ⟨z8, h⟩ := ck_some h
  have lz8 := ix_lt z8
  have xz8 := getD_mapD Volume_av list lz8
  try simp only [go_sem] at lz8
  try simp only [go_sem] at xz8
  try simp only [go_sem, n1, n2, n3, n4, z7] at z8
  all_goals
  rcases it_some h with ⟨z9, h⟩ | ⟨z9, h⟩
  ·try simp only [go_sem, n1, n2, n3, n4, z7, z8] at z9
   all_goals
   obtain ⟨y_10, z10, h⟩ := bd_some h
   have fz10 := Fs_49 z10
   try simp only [go_sem, z7, z8, z9] at fz10
   obtain rfl := so_some h
   refine ⟨0, fun L hL => ?_⟩
   simp only [go_sem, ir11, E_50_l2, R_50_l2, ir11_b1, ir11_k1, ir11_o1, ir11_r1, z7, z8, lz8, xz8, z9, fz10]
  ·try simp only [go_sem, n1, n2, n3, n4, z7, z8] at z9
   all_goals
   obtain rfl := so_some h
   refine ⟨0, fun L hL => ?_⟩
   simp only [go_sem, ir11, E_50_l2, R_50_l2, ir11_b1, ir11_k1, ir11_o1, ir11_r1, z7, z8, lz8, xz8, z9]
 ·try simp only [go_sem, n1, n2, n3, n4] at z7
  all_goals
  obtain rfl := so_some h
  refine ⟨0, fun L hL => ?_⟩
  simp only [go_sem, ir11, E_50_l2, R_50_l2, ir11_b1, ir11_k1, ir11_o1, ir11_r1, z7]

def E_50_l1 (list : List Volume) (to_ : Int) : ((List Window) × Int) → St
 | (out, t) => ⟨[.sl 5 (List.map Volume_av list), .any, .int .i64 to_, .any, .any, .any, .own 3200000, .int .i64 t, .any, .any, .any], [], [(3200000, ⟨2, List.map Window_av out⟩)], true⟩
def R_50_l1 (list : List Volume) (to_ : Int) (y : (List Window)) : Res := (.exit 0, ⟨[.any, .any, .any, .any, .any, .any, .own 3200000, .any, .any, .any, .any], [], [(3200000, ⟨2, List.map Window_av y⟩)], true⟩)
theorem spec_GapsOfArchive_l1_ex {list : List Volume} {to_ : Int} {sgm_ : (List Window) × Int} {rho_ : (List Window)} (h : whileE (spec_GapsOfArchive_l1 list to_) sgm_ = some rho_) : ∃ L0, ∀ L, L0 ≤ L → iter (exec (look t_50) L ir11_b0) ir11_k0 ir11_o0 ir11_r0 L (E_50_l1 list to_ sgm_) = R_50_l1 list to_ rho_ := by
 refine loop_ex (E := E_50_l1 list to_) (R := R_50_l1 list to_) (fun y => by first | (intro c; cases c) | (rcases y with y | y <;> (intro c; cases c)) | (rcases y with y | y | y <;> (intro c; cases c))) ?_ h
 clear h
 rintro ⟨out, t⟩ o_ h
 dsimp only [spec_GapsOfArchive_l1] at h
 rcases it_some h with ⟨z3, h⟩ | ⟨z3, h⟩
 ·try simp only [go_sem, n1, n2, n3, n4] at z3
  all_goals
  obtain ⟨y_4, z4, h⟩ := bd_some h
  have fz4 := Fs_30 z4
  try simp only [go_sem, z3] at fz4
  rcases it_some h with ⟨z5, h⟩ | ⟨z5, h⟩
  ·try simp only [go_sem, n1, n2, n3, n4, z3] at z5
   all_goals
   obtain ⟨z6, h⟩ := ck_some h
   have lz6 := ix_lt z6
   have xz6 := getD_mapD Volume_av list lz6
   try simp only [go_sem] at lz6
   try simp only [go_sem] at xz6
   try simp only [go_sem, n1, n2, n3, n4, z3, z5] at z6
   all_goals
   obtain rfl := so_some h
   refine ⟨0, fun L hL => ?_⟩
   simp only [go_sem, ir11, E_50_l1, R_50_l1, ir11_b0, ir11_k0, ir11_o0, ir11_r0, E_50_l2, R_50_l2, ir11_k1, ir11_o1, ir11_r1, z3, fz4, z5, z6, lz6, xz6]
  ·try simp only [go_sem, n1, n2, n3, n4, z3] at z5
   all_goals
   obtain ⟨y_11, z11, h⟩ := bd_some h
   obtain ⟨Lz11, ez11⟩ := spec_GapsOfArchive_l2_ex z11
   obtain ⟨z12, h⟩ := ck_some h
   try simp only [go_sem, n1, n2, n3, n4, z3, z5] at z12
   all_goals
   obtain rfl := so_some h
   refine ⟨Lz11, fun L hL => ?_⟩
   have ez11 := ez11 L (by omega)
   try simp only [go_sem, E_50_l1, R_50_l1, ir11_b0, ir11_k0, ir11_o0, ir11_r0, E_50_l2, R_50_l2, ir11_k1, ir11_o1, ir11_r1, z3, z5, z12] at ez11
   simp only [go_sem, ir11, E_50_l1, R_50_l1, ir11_b0, ir11_k0, ir11_o0, ir11_r0, E_50_l2, R_50_l2, ir11_k1, ir11_o1, ir11_r1, z3, fz4, z5, z12, ez11]
 ·try simp only [go_sem, n1, n2, n3, n4] at z3
  all_goals
  obtain rfl := so_some h
  refine ⟨0, fun L hL => ?_⟩
  simp only [go_sem, ir11, E_50_l1, R_50_l1, ir11_b0, ir11_k0, ir11_o0, ir11_r0, E_50_l2, R_50_l2, ir11_k1, ir11_o1, ir11_r1, z3]

theorem Fs_50 {list : List Volume} {from_ : Int} {to_ : Int} {y_ : (List Window) × Int} (h : spec_GapsOfArchive list from_ to_ = some y_) : c_50.F [.sl 5 (List.map Volume_av list), .int .i64 from_, .int .i64 to_] = ⟨true, .tup [.fresh 2 (List.map Window_av y_.1), .int .i64 y_.2], [.any, .any, .any]⟩ := by
 refine mkF_E (by simp only [flatA, flatB, flat1, List.all_cons, List.all_nil, Bool.and_self, flatE_map (f := Window_av) (fun _ => rfl)]) ?_
 dsimp only [spec_GapsOfArchive] at h
 obtain ⟨y_1, z1, h⟩ := bd_some h
 have fz1 := Fs_29 z1
 try simp only [go_sem] at fz1
 rcases it_some h with ⟨z2, h⟩ | ⟨z2, h⟩
 ·try simp only [go_sem, n1, n2, n3, n4] at z2
  all_goals
  obtain rfl := so_some h
  refine ⟨0, fun L hL => ?_⟩
  simp only [go_sem, ir11, E_50_l2, R_50_l2, ir11_k1, ir11_o1, ir11_r1, E_50_l1, R_50_l1, ir11_k0, ir11_o0, ir11_r0, fz1, z2]
 ·try simp only [go_sem, n1, n2, n3, n4] at z2
  all_goals
  obtain ⟨y_13, z13, h⟩ := bd_some h
  obtain ⟨Lz13, ez13⟩ := spec_GapsOfArchive_l1_ex z13
  rcases it_some h with ⟨z14, h⟩ | ⟨z14, h⟩
  ·try simp only [go_sem, n1, n2, n3, n4, z2] at z14
   all_goals
   obtain rfl := so_some h
   refine ⟨Lz13, fun L hL => ?_⟩
   have ez13 := ez13 L (by omega)
   try simp only [go_sem, E_50_l2, R_50_l2, ir11_k1, ir11_o1, ir11_r1, E_50_l1, R_50_l1, ir11_k0, ir11_o0, ir11_r0, z2, z14] at ez13
   simp only [go_sem, ir11, E_50_l2, R_50_l2, ir11_k1, ir11_o1, ir11_r1, E_50_l1, R_50_l1, ir11_k0, ir11_o0, ir11_r0, fz1, z2, z14, ez13]
  ·try simp only [go_sem, n1, n2, n3, n4, z2] at z14
   all_goals
   obtain rfl := so_some h
   refine ⟨Lz13, fun L hL => ?_⟩
   have ez13 := ez13 L (by omega)
   try simp only [go_sem, E_50_l2, R_50_l2, ir11_k1, ir11_o1, ir11_r1, E_50_l1, R_50_l1, ir11_k0, ir11_o0, ir11_r0, z2, z14] at ez13
   simp only [go_sem, ir11, E_50_l2, R_50_l2, ir11_k1, ir11_o1, ir11_r1, E_50_l1, R_50_l1, ir11_k0, ir11_o0, ir11_r0, fz1, z2, z14, ez13]


def ir12_v : List Nat := [0, 2, 3, 4]
def ir12 : AFn := ⟨1, 4, .seq (.region false [ VO 1 2 (.newnil 5), VO 2 3 (.mov (I6 0)), VO 3 4 (.mov (I6 0))]) (.seq (.region false [ PM 5 0, PO 6 (.call 38 [(.s 0)]), PO 7 (.ext (.s 0) 0), PO 8 (.ext (.s 1) 1), PO 9 (.ext (.s 2) 2), VS 1 2 2, VS 2 3 1, VS 3 4 0]) (.ret)), [.t 1, .t 2, .t 3]⟩
noncomputable def t_51 : List (Nat × Ctr) := [(38, c_11)]
theorem lk_51_38 : look t_51 38 = some c_11 := rfl
noncomputable def c_51 : Ctr := mkF t_51 ir12 [.bor]
theorem s_51 : Sound Try.prog 12 c_51 := mkF_sound _ rfl (snd_cons s_11 snd_nil) (by kernel_rfl : chkFn Try.prog 12 ir12 ir12_v = true)
theorem M_51 : c_51.modes = [.bor] := rfl
theorem Fl_51 : c_51.flat = true := rfl
attribute [go_sem] M_51 Fl_51
attribute [go_sem] lk_51_38
theorem Fs_51 {code : List UInt8} {y_ : (List Volume) × Int × Int} (h : spec_DrawGapsOfArchive code = some y_) : c_51.F [.sl 1 (List.map byteAV code)] = ⟨true, .tup [.fresh 5 (List.map Volume_av y_.1), .int .i64 y_.2.1, .int .i64 y_.2.2], [.any]⟩ := by
 refine mkF_E (by simp only [flatA, flatB, flat1, List.all_cons, List.all_nil, Bool.and_self, flatE_map (f := Volume_av) (fun _ => rfl)]) ?_
 dsimp only [spec_DrawGapsOfArchive] at h
 obtain ⟨y_1, z1, h⟩ := bd_some h
 have fz1 := Fs_11 z1
 try simp only [go_sem] at fz1
 obtain rfl := so_some h
 refine ⟨0, fun L hL => ?_⟩
 simp only [go_sem, ir12, fz1]


def ir13_b0 : IR := .seq (.test false [ PM 11 3, PM 12 0, PO 13 (.len false (.s 0)), PO 14 (.bin false .lss (.s 2) (.s 0))] (.s 0) (.skip) (.exit 0)) (.seq (.block 1 (.anyo 9 [ SO 0 17 (.mov (.v 0)), SO 1 18 (.mov (.v 3)), SO 2 19 (.ixAddr 1 (.s 0) (.s 1)), SO 3 20 (.load false 1 (.s 2)), SO 4 21 (.mov (.v 1)), SO 5 22 (.mov (.v 3)), SO 6 23 (.ixAddr 1 (.s 4) (.s 5)), SO 7 24 (.load false 1 (.s 6)), SO 8 25 (.bin false .neq (.s 3) (.s 7))] [] (.cond (.s 8) (.seq (.region false [ VO 2 4 (.mov (.c (.bool false)))]) (.ret)) (.skip)))) (.region false [ PM 15 3, PO 16 (.bin false .add (.s 0) (I6
 1)), VS 3 5 0]))
def ir13_k0 : List Bool := [true, true, false, true]
def ir13_o0 : List Bool := [false, false, false, false]
def ir13_r0 : List Bool := [false, false, true, false]
def ir13_v : List Nat := [0, 1, 4, 5]
def ir13 : AFn := ⟨2, 4, .seq (.region false [ VO 2 4 (.mov (.c (.bool false)))]) (.seq (.test false [ PM 6 0, PO 7 (.len false (.s 0)), PM 8 1, PO 9 (.len false (.s 0)), PO 10 (.bin false .neq (.s 2) (.s 0))] (.s 0) (.seq (.region false [ VO 2 4 (.mov (.c (.bool false)))]) (.ret)) (.skip)) (.seq (.seq (.region false [ VO 3 5 (.mov (I6 0))]) (.block 0 (.loop ir13_k0 ir13_o0 ir13_r0 ir13_b0))) (.seq (.region false [ VO 2 4 (.mov (.c (.bool true)))]) (.ret)))), [.t 2]⟩
noncomputable def t_52 : List (Nat × Ctr) := []
noncomputable def c_52 : Ctr := mkF t_52 ir13 [.bor, .bor]
theorem s_52 : Sound Try.prog 13 c_52 := mkF_sound _ rfl snd_nil (by kernel_rfl : chkFn Try.prog 13 ir13 ir13_v = true)
theorem M_52 : c_52.modes = [.bor, .bor] := rfl
theorem Fl_52 : c_52.flat = true := rfl
attribute [go_sem] M_52 Fl_52
def E_52_l1 (a : List Int) (b : List Int) : Int → St
 | i => ⟨[.sl 1 (List.map (AV.int .i64) a), .sl 1 (List.map (AV.int .i64) b), .any, .int .i64 i], [], [], true⟩
def R_52_l1 (a : List Int) (b : List Int) : (Unit ⊕ Bool) → Res
 | .inl y => (.exit 0, ⟨[.any, .any, .any, .any], [], [], true⟩)
 | .inr y => (.ret, ⟨[.any, .any, .bool y, .any], [], [], true⟩)
theorem laws_f6ints_l1_ex {a : List Int} {b : List Int} {sgm_ : Int} {rho_ : Unit ⊕ Bool} (h : whileE (laws_f6ints_l1 a b) sgm_ = some rho_) : ∃ L0, ∀ L, L0 ≤ L → iter (exec (look t_52) L ir13_b0) ir13_k0 ir13_o0 ir13_r0 L (E_52_l1 a b sgm_) = R_52_l1 a b rho_ := by
 refine loop_ex (E := E_52_l1 a b) (R := R_52_l1 a b) (fun y => by first | (intro c; cases c) | (rcases y with y | y <;> (intro c; cases c)) | (rcases y with y | y | y <;> (intro c; cases c))) ?_ h
 clear h
 intro i o_ h
 dsimp only [laws_f6ints_l1] at h
 rcases it_some h with ⟨z2, h⟩ | ⟨z2, h⟩
 ·try simp only [go_sem, n1, n2, n3, n4] at z2
  all_goals
  obtain ⟨z3, h⟩ := ck_some h
  have lz3 := ix_lt z3
  have xz3 := getD_mapD (AV.int .i64) a lz3
  try simp only [go_sem] at lz3
  try simp only [go_sem] at xz3
  try simp only [go_sem, n1, n2, n3, n4, z2] at z3
  all_goals
  obtain ⟨z4, h⟩ := ck_some h
  have lz4 := ix_lt z4
  have xz4 := getD_mapD (AV.int .i64) b lz4
  try simp only [go_sem] at lz4
  try simp only [go_sem] at xz4
  try simp only [go_sem, n1, n2, n3, n4, z2, z3] at z4
  all_goals
  rcases it_some h with ⟨z5, h⟩ | ⟨z5, h⟩
  ·try simp only [go_sem, n1, n2, n3, n4, z2, z3, z4] at z5
   all_goals
   obtain rfl := so_some h
   refine ⟨0, fun L hL => ?_⟩
   simp only [go_sem, ir13, E_52_l1, R_52_l1, ir13_b0, ir13_k0, ir13_o0, ir13_r0, z2, z3, lz3, xz3, z4, lz4, xz4, z5]
  ·try simp only [go_sem, n1, n2, n3, n4, z2, z3, z4] at z5
   all_goals
   obtain rfl := so_some h
   refine ⟨0, fun L hL => ?_⟩
   simp only [go_sem, ir13, E_52_l1, R_52_l1, ir13_b0, ir13_k0, ir13_o0, ir13_r0, z2, z3, lz3, xz3, z4, lz4, xz4, z5]
 ·try simp only [go_sem, n1, n2, n3, n4] at z2
  all_goals
  obtain rfl := so_some h
  refine ⟨0, fun L hL => ?_⟩
  simp only [go_sem, ir13, E_52_l1, R_52_l1, ir13_b0, ir13_k0, ir13_o0, ir13_r0, z2]

theorem Fs_52 {a : List Int} {b : List Int} {y_ : Bool} (h : laws_f6ints a b = some y_) : c_52.F [.sl 1 (List.map (AV.int .i64) a), .sl 1 (List.map (AV.int .i64) b)] = ⟨true, .bool y_, [.any, .any]⟩ := by
 refine mkF_E rfl ?_
 dsimp only [laws_f6ints] at h
 rcases it_some h with ⟨z1, h⟩ | ⟨z1, h⟩
 ·try simp only [go_sem, n1, n2, n3, n4] at z1
  all_goals
  obtain rfl := so_some h
  refine ⟨0, fun L hL => ?_⟩
  simp only [go_sem, ir13, E_52_l1, R_52_l1, ir13_k0, ir13_o0, ir13_r0, z1]
 ·try simp only [go_sem, n1, n2, n3, n4] at z1
  all_goals
  obtain ⟨y_6, z6, h⟩ := bd_some h
  obtain ⟨Lz6, ez6⟩ := laws_f6ints_l1_ex z6
  rcases y_6 with y_6a | y_6b
  ·dsimp only at h
   obtain rfl := so_some h
   refine ⟨Lz6, fun L hL => ?_⟩
   have ez6 := ez6 L (by omega)
   try simp only [go_sem, E_52_l1, R_52_l1, ir13_k0, ir13_o0, ir13_r0, z1] at ez6
   simp only [go_sem, ir13, E_52_l1, R_52_l1, ir13_k0, ir13_o0, ir13_r0, z1, ez6]
  ·dsimp only at h
   obtain rfl := so_some h
   refine ⟨Lz6, fun L hL => ?_⟩
   have ez6 := ez6 L (by omega)
   try simp only [go_sem, E_52_l1, R_52_l1, ir13_k0, ir13_o0, ir13_r0, z1] at ez6
   simp only [go_sem, ir13, E_52_l1, R_52_l1, ir13_k0, ir13_o0, ir13_r0, z1, ez6]


def ir49_b0 : IR := .seq (.test false [ PM 11 3, PM 12 0, PO 13 (.len false (.s 0)), PO 14 (.bin false .lss (.s 2) (.s 0))] (.s 0) (.skip) (.exit 0)) (.seq (.block 1 (.anyo 9 [ SO 0 17 (.mov (.v 0)), SO 1 18 (.mov (.v 3)), SO 2 19 (.ixAddr 2 (.s 0) (.s 1)), SO 3 20 (.load true 2 (.s 2)), SO 4 21 (.mov (.v 1)), SO 5 22 (.mov (.v 3)), SO 6 23 (.ixAddr 2 (.s 4) (.s 5)), SO 7 24 (.load true 2 (.s 6)), SO 8 25 (.eqA true [1, 1] (.s 3) (.s 7))] [] (.cond (.s 8) (.seq (.region false [ VO 2 4 (.mov (.c (.bool false)))]) (.ret)) (.skip)))) (.region false [ PM 15 3, PO 16 (.bin false .add (.s 0) (I6 1)),
 VS 3 5 0]))
def ir49_k0 : List Bool := [true, true, false, true]
def ir49_o0 : List Bool := [false, false, false, false]
def ir49_r0 : List Bool := [false, false, true, false]
def ir49_v : List Nat := [0, 1, 4, 5]
def ir49 : AFn := ⟨2, 4, .seq (.region false [ VO 2 4 (.mov (.c (.bool false)))]) (.seq (.test false [ PM 6 0, PO 7 (.len false (.s 0)), PM 8 1, PO 9 (.len false (.s 0)), PO 10 (.bin false .neq (.s 2) (.s 0))] (.s 0) (.seq (.region false [ VO 2 4 (.mov (.c (.bool false)))]) (.ret)) (.skip)) (.seq (.seq (.region false [ VO 3 5 (.mov (I6 0))]) (.block 0 (.loop ir49_k0 ir49_o0 ir49_r0 ir49_b0))) (.seq (.region false [ VO 2 4 (.mov (.c (.bool true)))]) (.ret)))), [.t 2]⟩
noncomputable def t_53 : List (Nat × Ctr) := []
noncomputable def c_53 : Ctr := mkF t_53 ir49 [.bor, .bor]
theorem s_53 : Sound Try.prog 49 c_53 := mkF_sound _ rfl snd_nil (by kernel_rfl : chkFn Try.prog 49 ir49 ir49_v = true)
theorem M_53 : c_53.modes = [.bor, .bor] := rfl
theorem Fl_53 : c_53.flat = true := rfl
attribute [go_sem] M_53 Fl_53
def E_53_l1 (a : List Window) (b : List Window) : Int → St
 | i => ⟨[.sl 2 (List.map Window_av a), .sl 2 (List.map Window_av b), .any, .int .i64 i], [], [], true⟩
def R_53_l1 (a : List Window) (b : List Window) : (Unit ⊕ Bool) → Res
 | .inl y => (.exit 0, ⟨[.any, .any, .any, .any], [], [], true⟩)
 | .inr y => (.ret, ⟨[.any, .any, .bool y, .any], [], [], true⟩)
theorem spec_l15Same_l1_ex {a : List Window} {b : List Window} {sgm_ : Int} {rho_ : Unit ⊕ Bool} (h : whileE (spec_l15Same_l1 a b) sgm_ = some rho_) : ∃ L0, ∀ L, L0 ≤ L → iter (exec (look t_53) L ir49_b0) ir49_k0 ir49_o0 ir49_r0 L (E_53_l1 a b sgm_) = R_53_l1 a b rho_ := by
 refine loop_ex (E := E_53_l1 a b) (R := R_53_l1 a b) (fun y => by first | (intro c; cases c) | (rcases y with y | y <;> (intro c; cases c)) | (rcases y with y | y | y <;> (intro c; cases c))) ?_ h
 clear h
 intro i o_ h
 dsimp only [spec_l15Same_l1] at h
 rcases it_some h with ⟨z2, h⟩ | ⟨z2, h⟩
 ·try simp only [go_sem, n1, n2, n3, n4] at z2
  all_goals
  obtain ⟨z3, h⟩ := ck_some h
  have lz3 := ix_lt z3
  have xz3 := getD_mapD Window_av a lz3
  try simp only [go_sem] at lz3
  try simp only [go_sem] at xz3
  try simp only [go_sem, n1, n2, n3, n4, z2] at z3
  all_goals
  obtain ⟨z4, h⟩ := ck_some h
  have lz4 := ix_lt z4
  have xz4 := getD_mapD Window_av b lz4
  try simp only [go_sem] at lz4
  try simp only [go_sem] at xz4
  try simp only [go_sem, n1, n2, n3, n4, z2, z3] at z4
  all_goals
  rcases it_some h with ⟨z5, h⟩ | ⟨z5, h⟩
  ·try simp only [go_sem, n1, n2, n3, n4, z2, z3, z4] at z5
   all_goals
   obtain rfl := so_some h
   refine ⟨0, fun L hL => ?_⟩
   simp only [go_sem, ir49, E_53_l1, R_53_l1, ir49_b0, ir49_k0, ir49_o0, ir49_r0, z2, z3, lz3, xz3, z4, lz4, xz4, z5]
  ·try simp only [go_sem, n1, n2, n3, n4, z2, z3, z4] at z5
   all_goals
   obtain rfl := so_some h
   refine ⟨0, fun L hL => ?_⟩
   simp only [go_sem, ir49, E_53_l1, R_53_l1, ir49_b0, ir49_k0, ir49_o0, ir49_r0, z2, z3, lz3, xz3, z4, lz4, xz4, z5]
 ·try simp only [go_sem, n1, n2, n3, n4] at z2
  all_goals
  obtain rfl := so_some h
  refine ⟨0, fun L hL => ?_⟩
  simp only [go_sem, ir49, E_53_l1, R_53_l1, ir49_b0, ir49_k0, ir49_o0, ir49_r0, z2]

theorem Fs_53 {a : List Window} {b : List Window} {y_ : Bool} (h : spec_l15Same a b = some y_) : c_53.F [.sl 2 (List.map Window_av a), .sl 2 (List.map Window_av b)] = ⟨true, .bool y_, [.any, .any]⟩ := by
 refine mkF_E rfl ?_
 dsimp only [spec_l15Same] at h
 rcases it_some h with ⟨z1, h⟩ | ⟨z1, h⟩
 ·try simp only [go_sem, n1, n2, n3, n4] at z1
  all_goals
  obtain rfl := so_some h
  refine ⟨0, fun L hL => ?_⟩
  simp only [go_sem, ir49, E_53_l1, R_53_l1, ir49_k0, ir49_o0, ir49_r0, z1]
 ·try simp only [go_sem, n1, n2, n3, n4] at z1
  all_goals
  obtain ⟨y_6, z6, h⟩ := bd_some h
  obtain ⟨Lz6, ez6⟩ := spec_l15Same_l1_ex z6
  rcases y_6 with y_6a | y_6b
  ·dsimp only at h
   obtain rfl := so_some h
   refine ⟨Lz6, fun L hL => ?_⟩
   have ez6 := ez6 L (by omega)
   try simp only [go_sem, E_53_l1, R_53_l1, ir49_k0, ir49_o0, ir49_r0, z1] at ez6
   simp only [go_sem, ir49, E_53_l1, R_53_l1, ir49_k0, ir49_o0, ir49_r0, z1, ez6]
  ·dsimp only at h
   obtain rfl := so_some h
   refine ⟨Lz6, fun L hL => ?_⟩
   have ez6 := ez6 L (by omega)
   try simp only [go_sem, E_53_l1, R_53_l1, ir49_k0, ir49_o0, ir49_r0, z1] at ez6
   simp only [go_sem, ir49, E_53_l1, R_53_l1, ir49_k0, ir49_o0, ir49_r0, z1, ez6]


def ir14_v : List Nat := [0, 1, 4]
def ir14 : AFn := ⟨2, 3, .seq (.region false [ VO 2 4 (.mov (.c (.bool false)))]) (.seq (.region false [ PM 5 0, PM 6 1, PO 7 (.call 49 [(.s 1), (.s 0)]), VS 2 4 0]) (.ret)), [.t 2]⟩
noncomputable def t_54 : List (Nat × Ctr) := [(49, c_53)]
theorem lk_54_49 : look t_54 49 = some c_53 := rfl
noncomputable def c_54 : Ctr := mkF t_54 ir14 [.bor, .bor]
theorem s_54 : Sound Try.prog 14 c_54 := mkF_sound _ rfl (snd_cons s_53 snd_nil) (by kernel_rfl : chkFn Try.prog 14 ir14 ir14_v = true)
theorem M_54 : c_54.modes = [.bor, .bor] := rfl
theorem Fl_54 : c_54.flat = true := rfl
attribute [go_sem] M_54 Fl_54
attribute [go_sem] lk_54_49
theorem Fs_54 {a : List Window} {b : List Window} {y_ : Bool} (h : spec_SameWindows a b = some y_) : c_54.F [.sl 2 (List.map Window_av a), .sl 2 (List.map Window_av b)] = ⟨true, .bool y_, [.any, .any]⟩ := by
 refine mkF_E rfl ?_
 dsimp only [spec_SameWindows] at h
 obtain ⟨y_1, z1, h⟩ := bd_some h
 have fz1 := Fs_53 z1
 try simp only [go_sem] at fz1
 obtain rfl := so_some h
 refine ⟨0, fun L hL => ?_⟩
 simp only [go_sem, ir14, fz1]


def ir53_v : List Nat := [0, 1, 2, 4]
def ir53 : AFn := ⟨3, 4, .seq (.region false [ VO 3 4 (.mov (.c (.bool false)))]) (.seq (.anyo 12 [ SO 0 5 (.load false 1 (.v 1)), SO 1 6 (.load false 1 (.v 2)), SO 2 7 (.mov (.v 0)), SO 3 8 (.ixAddr 5 (.s 1) (.s 2)), SO 4 9 (.fldAddr 1 (.s 3)), SO 5 10 (.load false 1 (.s 4)), SO 6 11 (.load false 1 (.v 2)), SO 7 12 (.mov (.v 0)), SO 8 13 (.ixAddr 5 (.s 6) (.s 7)), SO 9 14 (.fldAddr 2 (.s 8)), SO 10 15 (.load false 1 (.s 9)), SO 11 16 (.callp 43 [(.s 0), (.s 5), (.s 10)]), VS 3 4 11] [] .skip) (.ret)), [.t 3]⟩
noncomputable def t_55 : List (Nat × Ctr) := [(43, c_13)]
theorem lk_55_43 : look t_55 43 = some c_13 := rfl
noncomputable def c_55 : Ctr := mkF t_55 ir53 [.bor, .bor, .bor]
theorem s_55 : Sound Try.prog 53 c_55 := mkF_sound _ rfl (snd_cons s_13 snd_nil) (by kernel_rfl : chkFn Try.prog 53 ir53 ir53_v = true)
theorem M_55 : c_55.modes = [.bor, .bor, .bor] := rfl
theorem Fl_55 : c_55.flat = true := rfl
attribute [go_sem] M_55 Fl_55
attribute [go_sem] lk_55_43
theorem Fs_55 {i : Int} {t1 : Int} {t2 : List Volume} {y_ : Bool} (h : impl_VolumesAt_c1 i t1 t2 = some y_) : c_55.F [.int .i64 i, .ptr 1 [.int .i64 t1] 0 0, .ptr 1 [.sl 5 (List.map Volume_av t2)] 0 0] = ⟨true, .bool y_, [.any, .any, .any]⟩ := by
 refine mkF_E rfl ?_
 dsimp only [impl_VolumesAt_c1] at h
 obtain ⟨z1, h⟩ := ck_some h
 have lz1 := ix_lt z1
 have xz1 := getD_mapD Volume_av t2 lz1
 try simp only [go_sem] at lz1
 try simp only [go_sem] at xz1
 try simp only [go_sem, n1, n2, n3, n4] at z1
 all_goals
 obtain ⟨y_2, z2, h⟩ := bd_some h
 have fz2 := Fs_13 z2
 try simp only [go_sem, z1] at fz2
 obtain rfl := so_some h
 refine ⟨0, fun L hL => ?_⟩
 simp only [go_sem, ir53, z1, lz1, xz1, fz2]


def ir52_b0 : IR := .seq (.region false [ VO 7 10 (.bin false .lss (.v 6) (.v 5))]) (.seq (.cond (.v 7) (.skip) (.exit 0)) (.seq (.block 1 (.seq (.region false [ PM 11 6, VS 4 6 0]) (.test false [ PM 12 1, PM 13 4, PO 14 (.callv (.s 1) [(.s 0)])] (.s 0) (.region false [ PM 15 3, PM 16 4, PO 17 (.mkSl 1 (.int .i64 (0)) 1 [(0, (.s 0))]), PO 18 (.app 1 8 (.int .i64 (0)) (.s 2) (.s 0)), VS 3 5 0]) (.skip)))) (.region false [ PO 19 (.bin false .add (.v 6) (I6 1)), VS 6 9 0])))
def ir52_k0 : List Bool := [false, true, false, true, false, true, true, false]
def ir52_o0 : List Bool := [false, false, false, true, false, false, false, false]
def ir52_r0 : List Bool := [false, false, true, false, false, false, false, false]
def ir52_v : List Nat := [0, 1, 4, 5, 6, 8, 9, 10]
def ir52 : AFn := ⟨2, 8, .seq (.region false [ VO 2 4 (.newnil 1)]) (.seq (.region false [ PO 7 (.mkSl 1 (.int .i64 (0)) 0 []), VS 3 5 0]) (.seq (.seq (.region false [ VO 5 8 (.mov (.v 0)), VO 6 9 (.mov (I6 0))]) (.block 0 (.loop ir52_k0 ir52_o0 ir52_r0 ir52_b0))) (.seq (.region false [ PM 20 3, VS 2 4 0]) (.ret)))), [.t 2]⟩
noncomputable def t_56 : List (Nat × Ctr) := [(53, c_55)]
theorem lk_56_53 : look t_56 53 = some c_55 := rfl
noncomputable def c_56 : Ctr := mkF t_56 ir52 [.bor, .bor]
theorem s_56 : Sound Try.prog 52 c_56 := mkF_sound _ rfl (snd_cons s_55 snd_nil) (by kernel_rfl : chkFn Try.prog 52 ir52 ir52_v = true)
theorem M_56 : c_56.modes = [.bor, .bor] := rfl
theorem Fl_56 : c_56.flat = true := rfl
attribute [go_sem] M_56 Fl_56
attribute [go_sem] lk_56_53
def E_56_l1 (c : Int) (c2 : List Volume) (t8 : Int) : ((List Int) × Int) → St
 | (out, t9) => ⟨[.any, .fn (.func 53) [] [.ptr 1 [.int .i64 c] 0 0, .ptr 1 [.sl 5 (List.map Volume_av c2)] 0 0], .any, .own 3200000, .any, .int .i64 t8, .int .i64 t9, .any], [], [(3200000, ⟨1, List.map (AV.int .i64) out⟩)], true⟩
def R_56_l1 (c : Int) (c2 : List Volume) (t8 : Int) (y : (List Int)) : Res := (.exit 0, ⟨[.any, .any, .any, .own 3200000, .any, .any, .any, .any], [], [(3200000, ⟨1, List.map (AV.int .i64) y⟩)], true⟩)
theorem impl_indicesWhere__impl_VolumesAt_c1_l1_ex {c : Int} {c2 : List Volume} {t8 : Int} {sgm_ : (List Int) × Int} {rho_ : (List Int)} (h : whileE (impl_indicesWhere__impl_VolumesAt_c1_l1 c c2 t8) sgm_ = some rho_) : ∃ L0, ∀ L, L0 ≤ L → iter (exec (look t_56) L ir52_b0) ir52_k0 ir52_o0 ir52_r0 L (E_56_l1 c c2 t8 sgm_) = R_56_l1 c c2 t8 rho_ := by
 refine loop_ex (E := E_56_l1 c c2 t8) (R := R_56_l1 c c2 t8) (fun y => by first | (intro c; cases c) | (rcases y with y | y <;> (intro c; cases c)) | (rcases y with y | y | y <;> (intro c; cases c))) ?_ h
 clear h
 rintro ⟨out, t9⟩ o_ h
 dsimp only [impl_indicesWhere__impl_VolumesAt_c1_l1] at h
 rcases it_some h with ⟨z1, h⟩ | ⟨z1, h⟩
 ·try simp only [go_sem, n1, n2, n3, n4] at z1
  all_goals
  obtain ⟨y_2, z2, h⟩ := bd_some h
  have fz2 := Fs_55 z2
  try simp only [go_sem, z1] at fz2
  rcases it_some h with ⟨z3, h⟩ | ⟨z3, h⟩
  ·try simp only [go_sem, n1, n2, n3, n4, z1] at z3
   all_goals
   obtain ⟨z4, h⟩ := ck_some h
   try simp only [go_sem, n1, n2, n3, n4, z1, z3] at z4
   all_goals
   obtain rfl := so_some h
   refine ⟨0, fun L hL => ?_⟩
   simp only [go_sem, ir52, E_56_l1, R_56_l1, ir52_b0, ir52_k0, ir52_o0, ir52_r0, z1, fz2, z3, z4]
  ·try simp only [go_sem, n1, n2, n3, n4, z1] at z3
   all_goals
   obtain rfl := so_some h
   refine ⟨0, fun L hL => ?_⟩
   simp only [go_sem, ir52, E_56_l1, R_56_l1, ir52_b0, ir52_k0, ir52_o0, ir52_r0, z1, fz2, z3]
 ·try simp only [go_sem, n1, n2, n3, n4] at z1
  all_goals
  obtain rfl := so_some h
  refine ⟨0, fun L hL => ?_⟩
  simp only [go_sem, ir52, E_56_l1, R_56_l1, ir52_b0, ir52_k0, ir52_o0, ir52_r0, z1]

theorem Fs_56 {n : Int} {wanted_c0 : Int} {wanted_c1 : List Volume} {y_ : (List Int)} (h : impl_indicesWhere__impl_VolumesAt_c1 n wanted_c0 wanted_c1 = some y_) : c_56.F [.int .i64 n, .fn (.func 53) [] [.ptr 1 [.int .i64 wanted_c0] 0 0, .ptr 1 [.sl 5 (List.map Volume_av wanted_c1)] 0 0]] = ⟨true, .fresh 1 (List.map (AV.int .i64) y_), [.any, .any]⟩ := by
 refine mkF_E (by simp only [flatA, flatB, flat1, List.all_cons, List.all_nil, Bool.and_self, flatE_map (f := (AV.int .i64)) (fun _ => rfl)]) ?_
 dsimp only [impl_indicesWhere__impl_VolumesAt_c1] at h
 obtain ⟨y_5, z5, h⟩ := bd_some h
 obtain ⟨Lz5, ez5⟩ := impl_indicesWhere__impl_VolumesAt_c1_l1_ex z5
 obtain rfl := so_some h
 refine ⟨Lz5, fun L hL => ?_⟩
 have ez5 := ez5 L (by omega)
 try simp only [go_sem, E_56_l1, R_56_l1, ir52_k0, ir52_o0, ir52_r0] at ez5
 simp only [go_sem, ir52, E_56_l1, R_56_l1, ir52_k0, ir52_o0, ir52_r0, ez5]


def ir15_v : List Nat := [0, 1, 2, 3, 4, 5]
def ir15 : AFn := ⟨2, 6, .seq (.region false [ VO 2 2 (.box (.v 0)), VO 3 3 (.box (.v 1)), VO 4 4 (.newnil 1), VO 5 5 (.mov (I6 0))]) (.seq (.block 0 (.test false [ PO 7 (.load false 1 (.v 2)), PO 8 (.call 50 [(.s 0)]), PO 9 (.un .not (.s 0)), PO 6 (.mov (.s 0))] (.s 0) (.seq (.region false [ VO 4 4 (.newnil 1), VO 5 5 (.mov (I6 1))]) (.ret)) (.test false [ PO 11 (.load false 1 (.v 3)), PO 12 (.call 51 [(.s 0)]), PO 13 (.un .not (.s 0)), PO 10 (.mov (.s 0))] (.s 0) (.seq (.region false [ VO 4 4 (.newnil 1), VO 5 5 (.mov (I6 2))]) (.ret)) (.skip)))) (.seq (.region false [ PO 14 (.load false 1
 (.v 2)), PO 15 (.len false (.s 0)), PO 16 (.mkFn (.func 53) [] [(.v 3), (.v 2)]), PO 17 (.call 52 [(.s 1), (.s 0)]), VS 4 4 0, VO 5 5 (.mov (I6 0))]) (.ret))), [.t 4, .t 5]⟩
noncomputable def t_57 : List (Nat × Ctr) := [(50, c_19), (51, c_14), (52, c_56)]
theorem lk_57_50 : look t_57 50 = some c_19 := rfl
theorem lk_57_51 : look t_57 51 = some c_14 := rfl
theorem lk_57_52 : look t_57 52 = some c_56 := rfl
noncomputable def c_57 : Ctr := mkF t_57 ir15 [.bor, .bor]
theorem s_57 : Sound Try.prog 15 c_57 := mkF_sound _ rfl (snd_cons s_19 (snd_cons s_14 (snd_cons s_56 snd_nil))) (by kernel_rfl : chkFn Try.prog 15 ir15 ir15_v = true)
theorem M_57 : c_57.modes = [.bor, .bor] := rfl
theorem Fl_57 : c_57.flat = true := rfl
attribute [go_sem] M_57 Fl_57
attribute [go_sem] lk_57_50 lk_57_51 lk_57_52
theorem Fs_57 {list : List Volume} {t : Int} {y_ : (List Int) × Int} (h : impl_VolumesAt list t = some y_) : c_57.F [.sl 5 (List.map Volume_av list), .int .i64 t] = ⟨true, .tup [.fresh 1 (List.map (AV.int .i64) y_.1), .int .i64 y_.2], [.any, .any]⟩ := by
 refine mkF_E (by simp only [flatA, flatB, flat1, List.all_cons, List.all_nil, Bool.and_self, flatE_map (f := (AV.int .i64)) (fun _ => rfl)]) ?_
 dsimp only [impl_VolumesAt] at h
 obtain ⟨y_1, z1, h⟩ := bd_some h
 have fz1 := Fs_19 z1
 try simp only [go_sem] at fz1
 rcases it_some h with ⟨z2, h⟩ | ⟨z2, h⟩
 ·try simp only [go_sem, n1, n2, n3, n4] at z2
  all_goals
  obtain rfl := so_some h
  refine ⟨0, fun L hL => ?_⟩
  simp only [go_sem, ir15, fz1, z2]
 ·try simp only [go_sem, n1, n2, n3, n4] at z2
  all_goals
  obtain ⟨y_3, z3, h⟩ := bd_some h
  have fz3 := Fs_14 z3
  try simp only [go_sem, z2] at fz3
  rcases it_some h with ⟨z4, h⟩ | ⟨z4, h⟩
  ·try simp only [go_sem, n1, n2, n3, n4, z2] at z4
   all_goals
   obtain rfl := so_some h
   refine ⟨0, fun L hL => ?_⟩
   simp only [go_sem, ir15, fz1, z2, fz3, z4]
  ·try simp only [go_sem, n1, n2, n3, n4, z2] at z4
   all_goals
   obtain ⟨y_5, z5, h⟩ := bd_some h
   have fz5 := Fs_56 z5
   try simp only [go_sem, z2, z4] at fz5
   obtain rfl := so_some h
   refine ⟨0, fun L hL => ?_⟩
   simp only [go_sem, ir15, fz1, z2, fz3, z4, fz5]


def ir3_b1 : IR := .seq (.test false [ PM 153 23, PM 154 21, PO 155 (.len false (.s 0)), PO 156 (.bin false .lss (.s 2) (.s 0))] (.s 0) (.skip) (.exit 2)) (.seq (.block 3 (.test false [ PM 159 21, PM 160 23, PO 161 (.ixAddr 1 (.s 1) (.s 0)), PO 162 (.load false 1 (.s 0)), PO 163 (.bin false .lss (.s 0) (I6 0)), PO 164 (.mov (.s 0)), ⟨.push, 165, (some ((.s 0), false)), .mov (.v 21)⟩, ⟨.push, 166, (some ((.s 1), false)), .mov (.v 23)⟩, ⟨.push, 167, (some ((.s 2), false)), .ixAddr 1 (.s 1) (.s 0)⟩, ⟨.push, 168, (some ((.s 3), false)), .load false 1 (.s 0)⟩, ⟨.push, 169, (some ((.s 4), false)),
 .mov (.v 13)⟩, ⟨.push, 170, (some ((.s 5), false)), .len false (.s 0)⟩, ⟨.push, 171, (some ((.s 6), false)), .bin false .geq (.s 2) (.s 0)⟩, PO 172 (.pick (.s 7) (.c (.bool true)) (.s 0)), PO 173 (.mov (.s 0)), ⟨.push, 174, (some ((.s 0), false)), .mov (.v 13)⟩, ⟨.push, 175, (some ((.s 1), false)), .mov (.v 21)⟩, ⟨.push, 176, (some ((.s 2), false)), .mov (.v 23)⟩, ⟨.push, 177, (some ((.s 3), false)), .ixAddr 1 (.s 1) (.s 0)⟩, ⟨.push, 178, (some ((.s 4), false)), .load false 1 (.s 0)⟩, ⟨.push, 179, (some ((.s 5), false)), .ixAddr 5 (.s 4) (.s 0)⟩, ⟨.push, 180, (some ((.s 6), false)), .fldAddr 4
 (.s 0)⟩, ⟨.push, 181, (some ((.s 7), false)), .load false 1 (.s 0)⟩, ⟨.push, 182, (some ((.s 8), false)), .bin false .gtr (.s 0) (I6 0)⟩, PO 183 (.pick (.s 9) (.c (.bool true)) (.s 0))] (.s 0) (.seq (.region false [ VO 1 2 (.mov (.c (.bool false)))]) (.ret)) (.skip))) (.region false [ PM 157 23, PO 158 (.bin false .add (.s 0) (I6 1)), VS 23 24 0]))
def ir3_k1 : List Bool := [false, false, true, true, true, false, true, true, false, false, true, true, false, true, true, true, false, false, true, false, true, true, false, true, false, false, false]
def ir3_o1 : List Bool := [false, false, true, true, true, false, true, true, false, false, true, true, false, true, true, true, false, false, true, false, true, false, false, false, false, false, false]
def ir3_r1 : List Bool := [false, true, false, false, false, false, false, false, false, false, false, false, false, false, false, false, false, false, false, false, false, false, false, false, false, false, false]
def ir3_b0 : IR := .seq (.test false [ PM 117 20, PM 118 18, PO 119 (.len false (.s 0)), PO 120 (.bin false .lss (.s 2) (.s 0))] (.s 0) (.skip) (.exit 0)) (.seq (.block 1 (.seq (.region false [ PM 124 13, PM 125 18, PM 126 20, PO 127 (.ixAddr 2 (.s 1) (.s 0)), PO 128 (.fldAddr 0 (.s 0)), PO 129 (.load false 1 (.s 0)), PO 130 (.call 15 [(.s 5), (.s 0)]), PO 123 (.mov (.s 0)), PO 131 (.ext (.s 0) 0), PO 132 (.ext (.s 1) 1), VS 21 22 1, VS 22 23 0]) (.seq (.test false [ PM 133 22, PO 134 (.bin false .neq (.s 0) (I6 0)), PO 135 (.mov (.s 0)), ⟨.push, 136, (some ((.s 0), false)), .mov (.v 18)⟩,
 ⟨.push, 137, (some ((.s 1), false)), .mov (.v 20)⟩, ⟨.push, 138, (some ((.s 2), false)), .ixAddr 2 (.s 1) (.s 0)⟩, ⟨.push, 139, (some ((.s 3), false)), .fldAddr 0 (.s 0)⟩, ⟨.push, 140, (some ((.s 4), false)), .load false 1 (.s 0)⟩, ⟨.push, 141, (some ((.s 5), false)), .mov (.v 14)⟩, ⟨.push, 142, (some ((.s 6), false)), .bin false .lss (.s 1) (.s 0)⟩, PO 143 (.pick (.s 7) (.c (.bool true)) (.s 0)), PO 144 (.mov (.s 0)), ⟨.push, 145, (some ((.s 0), false)), .mov (.v 18)⟩, ⟨.push, 146, (some ((.s 1), false)), .mov (.v 20)⟩, ⟨.push, 147, (some ((.s 2), false)), .ixAddr 2 (.s 1) (.s 0)⟩, ⟨.push,
 148, (some ((.s 3), false)), .fldAddr 1 (.s 0)⟩, ⟨.push, 149, (some ((.s 4), false)), .load false 1 (.s 0)⟩, ⟨.push, 150, (some ((.s 5), false)), .mov (.v 15)⟩, ⟨.push, 151, (some ((.s 6), false)), .bin false .gtr (.s 1) (.s 0)⟩, PO 152 (.pick (.s 7) (.c (.bool true)) (.s 0))] (.s 0) (.seq (.region false [ VO 1 2 (.mov (.c (.bool false)))]) (.ret)) (.skip)) (.seq (.region false [ VO 23 24 (.mov (I6 0))]) (.block 2 (.loop ir3_k1 ir3_o1 ir3_r1 ir3_b1)))))) (.region false [ PM 121 20, PO 122 (.bin false .add (.s 0) (I6 1)), VS 20 21 0]))
def ir3_k0 : List Bool := [false, false, true, true, true, false, true, true, false, false, true, true, false, true, true, true, false, false, true, false, true, false, false, false, false, false, false]
def ir3_o0 : List Bool := [false, false, true, true, true, false, true, true, false, false, true, true, false, false, false, false, false, false, false, false, false, false, false, false, false, false, false]
def ir3_r0 : List Bool := [false, true, false, false, false, false, false, false, false, false, false, false, false, false, false, false, false, false, false, false, false, false, false, false, false, false, false]
def ir3_b2 : IR := .seq (.test false [ PM 205 25, PM 206 7, PO 207 (.len false (.s 0)), PO 208 (.bin false .lss (.s 2) (.s 0))] (.s 0) (.skip) (.exit 4)) (.seq (.block 5 (.seq (.region false [ PM 211 2, PM 212 7, PM 213 25, PO 214 (.ixAddr 1 (.s 1) (.s 0)), PO 215 (.load false 1 (.s 0)), PO 216 (.ixAddr 5 (.s 4) (.s 0)), VS 26 27 0]) (.seq (.test false [ PM 217 26, PO 218 (.nilck (.s 0)), PO 219 (.fldAddr 1 (.s 0)), PO 220 (.load false 1 (.s 0)), PM 221 24, PO 222 (.bin false .gtr (.s 1) (.s 0)), PO 223 (.mov (.s 0)), ⟨.push, 224, (some ((.s 0), false)), .mov (.v 26)⟩, ⟨.push, 225, (some ((.s
 1), false)), .nilck (.s 0)⟩, ⟨.push, 226, (some ((.s 2), false)), .fldAddr 2 (.s 0)⟩, ⟨.push, 227, (some ((.s 3), false)), .load false 1 (.s 0)⟩, ⟨.push, 228, (some ((.s 4), false)), .mov (.v 24)⟩, ⟨.push, 229, (some ((.s 5), false)), .bin false .lss (.s 1) (.s 0)⟩, PO 230 (.pick (.s 6) (.c (.bool true)) (.s 0)), PO 231 (.mov (.s 0)), ⟨.push, 232, (some ((.s 0), false)), .mov (.v 26)⟩, ⟨.push, 233, (some ((.s 1), false)), .nilck (.s 0)⟩, ⟨.push, 234, (some ((.s 2), false)), .fldAddr 4 (.s 0)⟩, ⟨.push, 235, (some ((.s 3), false)), .load false 1 (.s 0)⟩, ⟨.push, 236, (some ((.s 4), false)), .bin
 false .lss (.s 0) (I6 1)⟩, PO 237 (.pick (.s 5) (.c (.bool true)) (.s 0))] (.s 0) (.seq (.region false [ VO 1 2 (.mov (.c (.bool false)))]) (.ret)) (.skip)) (.region false [ PM 238 26, PO 239 (.nilck (.s 0)), PO 240 (.fldAddr 2 (.s 0)), PO 241 (.load false 1 (.s 0)), PO 242 (.bin false .add (.s 0) (I6 1)), VS 24 25 0])))) (.region false [ PM 209 25, PO 210 (.bin false .add (.s 0) (I6 1)), VS 25 26 0]))
def ir3_k2 : List Bool := [false, false, true, false, true, false, false, true, false, false, false, false, false, false, false, false, false, false, false, false, false, false, false, false, true, true, false]
def ir3_o2 : List Bool := [false, false, false, false, true, false, false, false, false, false, false, false, false, false, false, false, false, false, false, false, false, false, false, false, true, false, false]
def ir3_r2 : List Bool := [false, true, false, false, false, false, false, false, false, false, false, false, false, false, false, false, false, false, false, false, false, false, false, false, false, false, false]
def ir3_v : List Nat := [0, 2, 3, 4, 5, 6, 7, 8, 9, 10, 11, 12, 13, 14, 15, 16, 17, 18, 19, 20, 21, 22, 23, 24, 25, 26, 27]
def ir3 : AFn := ⟨1, 27, .seq (.region false [ VO 1 2 (.mov (.c (.bool false)))]) (.seq (.test false [ PM 28 0, PO 29 (.call 6 [(.s 0)])] (.s 0) (.seq (.region false [ VO 1 2 (.mov (.c (.bool true)))]) (.ret)) (.skip)) (.seq (.region false [ PM 31 0, PO 32 (.call 7 [(.s 0)]), PO 30 (.mov (.s 0)), PO 33 (.ext (.s 0) 0), PO 34 (.ext (.s 1) 1), PO 35 (.ext (.s 2) 2), VS 2 3 2, VS 3 4 1, VS 4 5 0]) (.seq (.region false [ PM 37 2, PM 38 3, PM 39 4, PO 40 (.call 8 [(.s 2), (.s 1), (.s 0)]), PO 36 (.mov (.s 0)), PO 41 (.ext (.s 0) 0), PO 42 (.ext (.s 1) 1), VS 5 6 1, VS 6 7 0]) (.seq (.region false [
 PM 44 2, PM 45 3, PM 46 4, PO 47 (.call 9 [(.s 2), (.s 1), (.s 0)]), PO 43 (.mov (.s 0)), PO 48 (.ext (.s 0) 0), PO 49 (.ext (.s 1) 1), VS 7 8 1, VS 8 9 0]) (.seq (.region false [ PM 51 2, PM 52 3, PM 53 4, PO 54 (.call 10 [(.s 2), (.s 1), (.s 0)]), PO 50 (.mov (.s 0)), PO 55 (.ext (.s 0) 0), PO 56 (.ext (.s 1) 1), VS 9 10 1, VS 10 11 0]) (.seq (.region false [ PM 58 2, PM 59 3, PM 60 4, PO 61 (.call 11 [(.s 2), (.s 1), (.s 0)]), PO 57 (.mov (.s 0)), PO 62 (.ext (.s 0) 0), PO 63 (.ext (.s 1) 1), VS 11 12 1, VS 12 13 0]) (.seq (.region false [ PM 65 0, PO 66 (.call 12 [(.s 0)]), PO 64 (.mov (.s
 0)), PO 67 (.ext (.s 0) 0), PO 68 (.ext (.s 1) 1), PO 69 (.ext (.s 2) 2), VS 13 14 2, VS 14 15 1, VS 15 16 0]) (.seq (.region false [ PM 71 13, PM 72 14, PM 73 15, PO 74 (.call 10 [(.s 2), (.s 1), (.s 0)]), PO 70 (.mov (.s 0)), PO 75 (.ext (.s 0) 0), PO 76 (.ext (.s 1) 1), VS 16 17 1, VS 17 18 0]) (.seq (.region false [ PM 78 13, PM 79 14, PM 80 15, PO 81 (.call 11 [(.s 2), (.s 1), (.s 0)]), PO 77 (.mov (.s 0)), PO 82 (.ext (.s 0) 0), PO 83 (.ext (.s 1) 1), VS 18 19 1, VS 19 20 0]) (.seq (.test false [ PM 84 6, PM 85 8, PO 86 (.bin false .neq (.s 1) (.s 0)), PO 87 (.mov (.s 0)), ⟨.push, 88,
 (some ((.s 0), false)), .mov (.v 5)⟩, ⟨.push, 89, (some ((.s 1), false)), .mov (.v 7)⟩, ⟨.push, 90, (some ((.s 2), false)), .call 13 [(.s 1), (.s 0)]⟩, ⟨.push, 91, (some ((.s 3), false)), .un .not (.s 0)⟩, PO 92 (.pick (.s 4) (.c (.bool true)) (.s 0)), PO 93 (.mov (.s 0)), ⟨.push, 94, (some ((.s 0), false)), .mov (.v 10)⟩, ⟨.push, 95, (some ((.s 1), false)), .mov (.v 12)⟩, ⟨.push, 96, (some ((.s 2), false)), .bin false .neq (.s 1) (.s 0)⟩, PO 97 (.pick (.s 3) (.c (.bool true)) (.s 0)), PO 98 (.mov (.s 0)), ⟨.push, 99, (some ((.s 0), false)), .mov (.v 9)⟩, ⟨.push, 100, (some ((.s 1), false)),
 .mov (.v 11)⟩, ⟨.push, 101, (some ((.s 2), false)), .call 14 [(.s 1), (.s 0)]⟩, ⟨.push, 102, (some ((.s 3), false)), .un .not (.s 0)⟩, PO 103 (.pick (.s 4) (.c (.bool true)) (.s 0)), PO 104 (.mov (.s 0)), ⟨.push, 105, (some ((.s 0), false)), .mov (.v 17)⟩, ⟨.push, 106, (some ((.s 1), false)), .mov (.v 19)⟩, ⟨.push, 107, (some ((.s 2), false)), .bin false .neq (.s 1) (.s 0)⟩, PO 108 (.pick (.s 3) (.c (.bool true)) (.s 0)), PO 109 (.mov (.s 0)), ⟨.push, 110, (some ((.s 0), false)), .mov (.v 16)⟩, ⟨.push, 111, (some ((.s 1), false)), .mov (.v 18)⟩, ⟨.push, 112, (some ((.s 2), false)), .call 14
 [(.s 1), (.s 0)]⟩, ⟨.push, 113, (some ((.s 3), false)), .un .not (.s 0)⟩, PO 114 (.pick (.s 4) (.c (.bool true)) (.s 0))] (.s 0) (.seq (.region false [ VO 1 2 (.mov (.c (.bool false)))]) (.ret)) (.skip)) (.seq (.test false [ PM 115 17, PO 116 (.bin false .eql (.s 0) (I6 0))] (.s 0) (.seq (.region false [ VO 20 21 (.mov (I6 0))]) (.block 0 (.loop ir3_k0 ir3_o0 ir3_r0 ir3_b0))) (.skip)) (.seq (.test false [ PM 184 10, PO 185 (.bin false .eql (.s 0) (I6 0)), PO 186 (.mov (.s 0)), ⟨.push, 187, (some ((.s 0), true)), .mov (.v 6)⟩, ⟨.push, 188, (some ((.s 1), true)), .bin false .neq (.s 0) (I6 2)⟩,
 PO 189 (.pick (.s 2) (.s 0) (.c (.bool false))), PO 190 (.mov (.s 0)), ⟨.push, 191, (some ((.s 0), true)), .mov (.v 6)⟩, ⟨.push, 192, (some ((.s 1), true)), .bin false .neq (.s 0) (I6 1)⟩, PO 193 (.pick (.s 2) (.s 0) (.c (.bool false))), PO 194 (.mov (.s 0)), ⟨.push, 195, (some ((.s 0), true)), .mov (.v 11)⟩, ⟨.push, 196, (some ((.s 1), true)), .len false (.s 0)⟩, ⟨.push, 197, (some ((.s 2), true)), .bin false .eql (.s 0) (I6 0)⟩, ⟨.push, 198, (some ((.s 3), true)), .mov (.v 6)⟩, ⟨.push, 199, (some ((.s 4), true)), .bin false .eql (.s 0) (I6 0)⟩, ⟨.push, 200, (some ((.s 5), true)), .bin true
 .neq (.s 2) (.s 0)⟩, PO 201 (.pick (.s 6) (.s 0) (.c (.bool false)))] (.s 0) (.seq (.region false [ VO 1 2 (.mov (.c (.bool false)))]) (.ret)) (.skip)) (.seq (.test false [ PM 202 6, PO 203 (.bin false .neq (.s 0) (I6 0))] (.s 0) (.seq (.region false [ VO 1 2 (.mov (.c (.bool true)))]) (.ret)) (.skip)) (.seq (.region false [ PM 204 3, VS 24 25 0]) (.seq (.seq (.region false [ VO 25 26 (.mov (I6 0))]) (.block 4 (.loop ir3_k2 ir3_o2 ir3_r2 ir3_b2))) (.seq (.region false [ PM 243 24, PM 244 4, PO 245 (.bin false .gtr (.s 1) (.s 0)), VS 1 2 0]) (.ret))))))))))))))))), [.t 1]⟩
noncomputable def t_laws_FnCovered : List (Nat × Ctr) := [(6, c_0), (7, c_12), (8, c_21), (9, c_31), (10, c_48), (11, c_50), (12, c_51), (13, c_52), (14, c_54), (15, c_57)]
theorem lk_laws_FnCovered_6 : look t_laws_FnCovered 6 = some c_0 := rfl
theorem lk_laws_FnCovered_7 : look t_laws_FnCovered 7 = some c_12 := rfl
theorem lk_laws_FnCovered_8 : look t_laws_FnCovered 8 = some c_21 := rfl
theorem lk_laws_FnCovered_9 : look t_laws_FnCovered 9 = some c_31 := rfl
theorem lk_laws_FnCovered_10 : look t_laws_FnCovered 10 = some c_48 := rfl
theorem lk_laws_FnCovered_11 : look t_laws_FnCovered 11 = some c_50 := rfl
theorem lk_laws_FnCovered_12 : look t_laws_FnCovered 12 = some c_51 := rfl
theorem lk_laws_FnCovered_13 : look t_laws_FnCovered 13 = some c_52 := rfl
theorem lk_laws_FnCovered_14 : look t_laws_FnCovered 14 = some c_54 := rfl
theorem lk_laws_FnCovered_15 : look t_laws_FnCovered 15 = some c_57 := rfl
noncomputable def c_laws_FnCovered : Ctr := mkF t_laws_FnCovered ir3 [.bor]
theorem s_laws_FnCovered : Sound Try.prog 3 c_laws_FnCovered := mkF_sound _ rfl (snd_cons s_0 (snd_cons s_12 (snd_cons s_21 (snd_cons s_31 (snd_cons s_48 (snd_cons s_50 (snd_cons s_51 (snd_cons s_52 (snd_cons s_54 (snd_cons s_57 snd_nil)))))))))) (by kernel_rfl : chkFn Try.prog 3 ir3 ir3_v = true)
theorem M_laws_FnCovered : c_laws_FnCovered.modes = [.bor] := rfl
theorem Fl_laws_FnCovered : c_laws_FnCovered.flat = true := rfl
attribute [go_sem] M_laws_FnCovered Fl_laws_FnCovered
attribute [go_sem] lk_laws_FnCovered_6 lk_laws_FnCovered_7 lk_laws_FnCovered_8 lk_laws_FnCovered_9 lk_laws_FnCovered_10 lk_laws_FnCovered_11 lk_laws_FnCovered_12 lk_laws_FnCovered_13 lk_laws_FnCovered_14 lk_laws_FnCovered_15
def E_laws_FnCovered_l2 (list : List Volume) (from_ : Int) (to_ : Int) (bad : Int) (model : List Int) (one : Int) (open_ : List Window) (a : List Volume) (b : Int) (c : Int) (right_ : List Window) (i : Int) (in_ : List Int) : Int → St
 | k => ⟨[.any, .any, .sl 5 (List.map Volume_av list), .int .i64 from_, .int .i64 to_, .any, .int .i64 bad, .own 3200000, .any, .any, .int .i64 one, .own 3200032, .any, .sl 5 (List.map Volume_av a), .int .i64 b, .int .i64 c, .any, .any, .own 3200064, .any, .int .i64 i, .own 3200096, .any, .int .i64 k, .any, .any, .any], [], [(3200000, ⟨1, List.map (AV.int .i64) model⟩), (3200032, ⟨2, List.map Window_av open_⟩), (3200064, ⟨2, List.map Window_av right_⟩), (3200096, ⟨1, List.map (AV.int .i64) in_⟩)], true⟩
def R_laws_FnCovered_l2 (list : List Volume) (from_ : Int) (to_ : Int) (bad : Int) (model : List Int) (one : Int) (open_ : List Window) (a : List Volume) (b : Int) (c : Int) (right_ : List Window) (i : Int) (in_ : List Int) : (Unit ⊕ Bool) → Res
 | .inl y => (.exit 2, ⟨[.any, .any, .sl 5 (List.map Volume_av list), .int .i64 from_, .int .i64 to_, .any, .int .i64 bad, .own 3200000, .any, .any, .int .i64 one, .own 3200032, .any, .sl 5 (List.map Volume_av a), .int .i64 b, .int .i64 c, .any, .any, .own 3200064, .any, .int .i64 i, .any, .any, .any, .any, .any, .any], [], [(3200000, ⟨1, List.map (AV.int .i64) model⟩), (3200032, ⟨2, List.map Window_av open_⟩), (3200064, ⟨2, List.map Window_av right_⟩)], true⟩)
 | .inr y => (.ret, ⟨[.any, .bool y, .any, .any, .any, .any, .any, .any, .any, .any, .any, .any, .any, .any, .any, .any, .any, .any, .any, .any, .any, .any, .any, .any, .any, .any, .any], [], [], true⟩)
set_option maxHeartbeats 8000000 in
theorem laws_FnCovered_l2_ex {list : List Volume} {from_ : Int} {to_ : Int} {bad : Int} {model : List Int} {one : Int} {open_ : List Window} {a : List Volume} {b : Int} {c : Int} {right_ : List Window} {i : Int} {in_ : List Int} {sgm_ : Int} {rho_ : Unit ⊕ Bool} (h : whileE (laws_FnCovered_l2 list from_ to_ bad model one open_ a b c right_ i in_) sgm_ = some rho_) : ∃ L0, ∀ L, L0 ≤ L → iter (exec (look t_laws_FnCovered) L ir3_b1) ir3_k1 ir3_o1 ir3_r1 L (E_laws_FnCovered_l2 list from_ to_ bad model one open_ a b c right_ i in_ sgm_) = R_laws_FnCovered_l2 list from_ to_ bad model one open_ a b c right_ i in_ rho_ := by
 refine loop_ex (E := E_laws_FnCovered_l2 list from_ to_ bad model one open_ a b c right_ i in_) (R := R_laws_FnCovered_l2 list from_ to_ bad model one open_ a b c right_ i in_) (fun y => by first | (intro c; cases c) | (rcases y with y | y <;> (intro c; cases c)) | (rcases y with y | y | y <;> (intro c; cases c))) ?_ h
 clear h
 intro k o_ h
 dsimp only [laws_FnCovered_l2] at h
 rcases it_some h with ⟨z20, h⟩ | ⟨z20, h⟩
 ·try simp only [go_sem, n1, n2, n3, n4] at z20
  all_goals
  obtain ⟨z21, h⟩ := ck_some h
  have lz21 := ix_lt z21
  have xz21 := getD_mapD (AV.int .i64) in_ lz21
  try simp only [go_sem] at lz21
  try simp only [go_sem] at xz21
  try simp only [go_sem, n1, n2, n3, n4, z20] at z21
  all_goals
  obtain ⟨z22, h⟩ := ck_some h
  rcases or_split z22 with ⟨gz22, z22⟩ | gz22
  ·try simp only [go_sem, n1, n2, n3, n4, z20, z21] at gz22
   all_goals
   have lz22 := ix_lt z22
   have xz22 := getD_mapD Volume_av a lz22
   try simp only [go_sem] at lz22
   try simp only [go_sem] at xz22
   try simp only [go_sem, n1, n2, n3, n4, z20, z21, gz22] at z22
   all_goals
   rcases it_some h with ⟨z23, h⟩ | ⟨z23, h⟩
   ·try simp only [go_sem, n1, n2, n3, n4, z20, z21, gz22, z22] at z23
    all_goals
    obtain rfl := so_some h
    refine ⟨0, fun L hL => ?_⟩
    simp only [go_sem, ir3, E_laws_FnCovered_l2, R_laws_FnCovered_l2, ir3_b1, ir3_k1, ir3_o1, ir3_r1, z20, z21, lz21, xz21, gz22, z22, lz22, xz22, z23]
   ·try simp only [go_sem, n1, n2, n3, n4, z20, z21, gz22, z22] at z23
    all_goals
    obtain rfl := so_some h
    refine ⟨0, fun L hL => ?_⟩
    simp only [go_sem, ir3, E_laws_FnCovered_l2, R_laws_FnCovered_l2, ir3_b1, ir3_k1, ir3_o1, ir3_r1, z20, z21, lz21, xz21, gz22, z22, lz22, xz22, z23]
  ·have gz22n := no_f gz22
   rcases or_t gz22n with gz22na | ⟨gz22na, gz22nb⟩
   ·try simp only [go_sem, n1, n2, n3, n4, z20, z21] at gz22na
    all_goals
    rcases it_some h with ⟨z23, h⟩ | ⟨z23, h⟩
    ·try simp only [go_sem, n1, n2, n3, n4, z20, z21, gz22na] at z23
     all_goals
     obtain rfl := so_some h
     refine ⟨0, fun L hL => ?_⟩
     simp only [go_sem, ir3, E_laws_FnCovered_l2, R_laws_FnCovered_l2, ir3_b1, ir3_k1, ir3_o1, ir3_r1, z20, z21, lz21, xz21, gz22na, z23]
    ·try simp only [go_sem, n1, n2, n3, n4, z20, z21, gz22na] at z23
     all_goals
     (simp_all)
   ·try simp only [go_sem, n1, n2, n3, n4, z20, z21] at gz22na
    all_goals
    try simp only [go_sem, n1, n2, n3, n4, z20, z21, gz22na] at gz22nb
    all_goals
    rcases it_some h with ⟨z23, h⟩ | ⟨z23, h⟩
    ·try simp only [go_sem, n1, n2, n3, n4, z20, z21, gz22na, gz22nb] at z23
     all_goals
     obtain rfl := so_some h
     refine ⟨0, fun L hL => ?_⟩
     simp only [go_sem, ir3, E_laws_FnCovered_l2, R_laws_FnCovered_l2, ir3_b1, ir3_k1, ir3_o1, ir3_r1, z20, z21, lz21, xz21, gz22na, gz22nb, z23]
    ·try simp only [go_sem, n1, n2, n3, n4, z20, z21, gz22na, gz22nb] at z23
     all_goals
     (simp_all)
 ·try simp only [go_sem, n1, n2, n3, n4] at z20
  all_goals
  obtain rfl := so_some h
  refine ⟨0, fun L hL => ?_⟩
  simp only [go_sem, ir3, E_laws_FnCovered_l2, R_laws_FnCovered_l2, ir3_b1, ir3_k1, ir3_o1, ir3_r1, z20]

def E_laws_FnCovered_l1 (list : List Volume) (from_ : Int) (to_ : Int) (bad : Int) (model : List Int) (one : Int) (open_ : List Window) (a : List Volume) (b : Int) (c : Int) (right_ : List Window) : Int → St
 | i => ⟨[.any, .any, .sl 5 (List.map Volume_av list), .int .i64 from_, .int .i64 to_, .any, .int .i64 bad, .own 3200000, .any, .any, .int .i64 one, .own 3200032, .any, .sl 5 (List.map Volume_av a), .int .i64 b, .int .i64 c, .any, .any, .own 3200064, .any, .int .i64 i, .any, .any, .any, .any, .any, .any], [], [(3200000, ⟨1, List.map (AV.int .i64) model⟩), (3200032, ⟨2, List.map Window_av open_⟩), (3200064, ⟨2, List.map Window_av right_⟩)], true⟩
def R_laws_FnCovered_l1 (list : List Volume) (from_ : Int) (to_ : Int) (bad : Int) (model : List Int) (one : Int) (open_ : List Window) (a : List Volume) (b : Int) (c : Int) (right_ : List Window) : (Unit ⊕ Bool) → Res
 | .inl y => (.exit 0, ⟨[.any, .any, .sl 5 (List.map Volume_av list), .int .i64 from_, .int .i64 to_, .any, .int .i64 bad, .own 3200000, .any, .any, .int .i64 one, .own 3200032, .any, .any, .any, .any, .any, .any, .any, .any, .any, .any, .any, .any, .any, .any, .any], [], [(3200000, ⟨1, List.map (AV.int .i64) model⟩), (3200032, ⟨2, List.map Window_av open_⟩)], true⟩)
 | .inr y => (.ret, ⟨[.any, .bool y, .any, .any, .any, .any, .any, .any, .any, .any, .any, .any, .any, .any, .any, .any, .any, .any, .any, .any, .any, .any, .any, .any, .any, .any, .any], [], [], true⟩)
set_option maxHeartbeats 8000000 in
theorem laws_FnCovered_l1_ex {list : List Volume} {from_ : Int} {to_ : Int} {bad : Int} {model : List Int} {one : Int} {open_ : List Window} {a : List Volume} {b : Int} {c : Int} {right_ : List Window} {sgm_ : Int} {rho_ : Unit ⊕ Bool} (h : whileE (laws_FnCovered_l1 list from_ to_ bad model one open_ a b c right_) sgm_ = some rho_) : ∃ L0, ∀ L, L0 ≤ L → iter (exec (look t_laws_FnCovered) L ir3_b0) ir3_k0 ir3_o0 ir3_r0 L (E_laws_FnCovered_l1 list from_ to_ bad model one open_ a b c right_ sgm_) = R_laws_FnCovered_l1 list from_ to_ bad model one open_ a b c right_ rho_ := by
 refine loop_ex (E := E_laws_FnCovered_l1 list from_ to_ bad model one open_ a b c right_) (R := R_laws_FnCovered_l1 list from_ to_ bad model one open_ a b c right_) (fun y => by first | (intro c; cases c) | (rcases y with y | y <;> (intro c; cases c)) | (rcases y with y | y | y <;> (intro c; cases c))) ?_ h
 clear h
 intro i o_ h
 dsimp only [laws_FnCovered_l1] at h
 rcases it_some h with ⟨z16, h⟩ | ⟨z16, h⟩
 ·try simp only [go_sem, n1, n2, n3, n4] at z16
  all_goals
  obtain ⟨z17, h⟩ := ck_some h
  have lz17 := ix_lt z17
  have xz17 := getD_mapD Window_av right_ lz17
  try simp only [go_sem] at lz17
  try simp only [go_sem] at xz17
  try simp only [go_sem, n1, n2, n3, n4, z16] at z17
  all_goals
  obtain ⟨y_18, z18, h⟩ := bd_some h
  have fz18 := Fs_57 z18
  try simp only [go_sem, z16, z17] at fz18
  rcases it_some h with ⟨z19, h⟩ | ⟨z19, h⟩
  ·try simp only [go_sem, n1, n2, n3, n4, z16, z17] at z19
   all_goals
   obtain rfl := so_some h
   refine ⟨0, fun L hL => ?_⟩
   simp only [go_sem, ir3, E_laws_FnCovered_l1, R_laws_FnCovered_l1, ir3_b0, ir3_k0, ir3_o0, ir3_r0, E_laws_FnCovered_l2, R_laws_FnCovered_l2, ir3_k1, ir3_o1, ir3_r1, z16, z17, lz17, xz17, fz18, z19]
  ·try simp only [go_sem, n1, n2, n3, n4, z16, z17] at z19
   all_goals
   obtain ⟨y_24, z24, h⟩ := bd_some h
   obtain ⟨Lz24, ez24⟩ := laws_FnCovered_l2_ex z24
   rcases y_24 with y_24a | y_24b
   ·dsimp only at h
    obtain rfl := so_some h
    refine ⟨Lz24, fun L hL => ?_⟩
    have ez24 := ez24 L (by omega)
    try simp only [go_sem, E_laws_FnCovered_l1, R_laws_FnCovered_l1, ir3_b0, ir3_k0, ir3_o0, ir3_r0, E_laws_FnCovered_l2, R_laws_FnCovered_l2, ir3_k1, ir3_o1, ir3_r1, z16, z17, z19] at ez24
    simp only [go_sem, ir3, E_laws_FnCovered_l1, R_laws_FnCovered_l1, ir3_b0, ir3_k0, ir3_o0, ir3_r0, E_laws_FnCovered_l2, R_laws_FnCovered_l2, ir3_k1, ir3_o1, ir3_r1, z16, z17, lz17, xz17, fz18, z19, ez24]
   ·dsimp only at h
    obtain rfl := so_some h
    refine ⟨Lz24, fun L hL => ?_⟩
    have ez24 := ez24 L (by omega)
    try simp only [go_sem, E_laws_FnCovered_l1, R_laws_FnCovered_l1, ir3_b0, ir3_k0, ir3_o0, ir3_r0, E_laws_FnCovered_l2, R_laws_FnCovered_l2, ir3_k1, ir3_o1, ir3_r1, z16, z17, z19] at ez24
    simp only [go_sem, ir3, E_laws_FnCovered_l1, R_laws_FnCovered_l1, ir3_b0, ir3_k0, ir3_o0, ir3_r0, E_laws_FnCovered_l2, R_laws_FnCovered_l2, ir3_k1, ir3_o1, ir3_r1, z16, z17, lz17, xz17, fz18, z19, ez24]
 ·try simp only [go_sem, n1, n2, n3, n4] at z16
  all_goals
  obtain rfl := so_some h
  refine ⟨0, fun L hL => ?_⟩
  simp only [go_sem, ir3, E_laws_FnCovered_l1, R_laws_FnCovered_l1, ir3_b0, ir3_k0, ir3_o0, ir3_r0, E_laws_FnCovered_l2, R_laws_FnCovered_l2, ir3_k1, ir3_o1, ir3_r1, z16]

def E_laws_FnCovered_l3 (list : List Volume) (to_ : Int) (model : List Int) : (Int × Int) → St
 | (t, i) => ⟨[.any, .any, .sl 5 (List.map Volume_av list), .any, .int .i64 to_, .any, .any, .own 3200000, .any, .any, .any, .any, .any, .any, .any, .any, .any, .any, .any, .any, .any, .any, .any, .any, .int .i64 t, .int .i64 i, .any], [], [(3200000, ⟨1, List.map (AV.int .i64) model⟩)], true⟩
def R_laws_FnCovered_l3 (list : List Volume) (to_ : Int) (model : List Int) : (Int ⊕ Bool) → Res
 | .inl y => (.exit 4, ⟨[.any, .any, .any, .any, .int .i64 to_, .any, .any, .any, .any, .any, .any, .any, .any, .any, .any, .any, .any, .any, .any, .any, .any, .any, .any, .any, .int .i64 y, .any, .any], [], [], true⟩)
 | .inr y => (.ret, ⟨[.any, .bool y, .any, .any, .any, .any, .any, .any, .any, .any, .any, .any, .any, .any, .any, .any, .any, .any, .any, .any, .any, .any, .any, .any, .any, .any, .any], [], [], true⟩)
set_option maxHeartbeats 8000000 in
theorem laws_FnCovered_l3_ex {list : List Volume} {to_ : Int} {model : List Int} {sgm_ : Int × Int} {rho_ : Int ⊕ Bool} (h : whileE (laws_FnCovered_l3 list to_ model) sgm_ = some rho_) : ∃ L0, ∀ L, L0 ≤ L → iter (exec (look t_laws_FnCovered) L ir3_b2) ir3_k2 ir3_o2 ir3_r2 L (E_laws_FnCovered_l3 list to_ model sgm_) = R_laws_FnCovered_l3 list to_ model rho_ := by
 refine loop_ex (E := E_laws_FnCovered_l3 list to_ model) (R := R_laws_FnCovered_l3 list to_ model) (fun y => by first | (intro c; cases c) | (rcases y with y | y <;> (intro c; cases c)) | (rcases y with y | y | y <;> (intro c; cases c))) ?_ h
 clear h
 rintro ⟨t, i⟩ o_ h
 dsimp only [laws_FnCovered_l3] at h
 rcases it_some h with ⟨z28, h⟩ | ⟨z28, h⟩
 ·try simp only [go_sem, n1, n2, n3, n4] at z28
  all_goals
  obtain ⟨z29, h⟩ := ck_some h
  have lz29 := ix_lt z29
  have xz29 := getD_mapD (AV.int .i64) model lz29
  try simp only [go_sem] at lz29
  try simp only [go_sem] at xz29
  try simp only [go_sem, n1, n2, n3, n4, z28] at z29
  all_goals
  obtain ⟨z30, h⟩ := ck_some h
  have lz30 := ix_lt z30
  have xz30 := getD_mapD Volume_av list lz30
  try simp only [go_sem] at lz30
  try simp only [go_sem] at xz30
  try simp only [go_sem, n1, n2, n3, n4, z28, z29] at z30
  all_goals
  rcases it_some h with ⟨z31, h⟩ | ⟨z31, h⟩
  ·try simp only [go_sem, n1, n2, n3, n4, z28, z29, z30] at z31
   all_goals
   obtain rfl := so_some h
   refine ⟨0, fun L hL => ?_⟩
   simp only [go_sem, ir3, E_laws_FnCovered_l3, R_laws_FnCovered_l3, ir3_b2, ir3_k2, ir3_o2, ir3_r2, E_laws_FnCovered_l2, R_laws_FnCovered_l2, ir3_k1, ir3_o1, ir3_r1, E_laws_FnCovered_l1, R_laws_FnCovered_l1, ir3_k0, ir3_o0, ir3_r0, z28, z29, lz29, xz29, z30, lz30, xz30, z31]
  ·try simp only [go_sem, n1, n2, n3, n4, z28, z29, z30] at z31
   all_goals
   obtain rfl := so_some h
   refine ⟨0, fun L hL => ?_⟩
   simp only [go_sem, ir3, E_laws_FnCovered_l3, R_laws_FnCovered_l3, ir3_b2, ir3_k2, ir3_o2, ir3_r2, E_laws_FnCovered_l2, R_laws_FnCovered_l2, ir3_k1, ir3_o1, ir3_r1, E_laws_FnCovered_l1, R_laws_FnCovered_l1, ir3_k0, ir3_o0, ir3_r0, z28, z29, lz29, xz29, z30, lz30, xz30, z31]
 ·try simp only [go_sem, n1, n2, n3, n4] at z28
  all_goals
  obtain rfl := so_some h
  refine ⟨0, fun L hL => ?_⟩
  simp only [go_sem, ir3, E_laws_FnCovered_l3, R_laws_FnCovered_l3, ir3_b2, ir3_k2, ir3_o2, ir3_r2, E_laws_FnCovered_l2, R_laws_FnCovered_l2, ir3_k1, ir3_o1, ir3_r1, E_laws_FnCovered_l1, R_laws_FnCovered_l1, ir3_k0, ir3_o0, ir3_r0, z28]

def E_laws_FnCovered_l4 (list : List Volume) (to_ : Int) (model : List Int) : (Int × Int) → St
 | (t, i) => ⟨[.any, .any, .sl 5 (List.map Volume_av list), .any, .int .i64 to_, .any, .any, .own 3200000, .any, .any, .any, .any, .any, .any, .any, .any, .any, .any, .any, .any, .any, .any, .any, .any, .int .i64 t, .int .i64 i, .any], [], [(3200000, ⟨1, List.map (AV.int .i64) model⟩)], true⟩
def R_laws_FnCovered_l4 (list : List Volume) (to_ : Int) (model : List Int) : (Int ⊕ Bool) → Res
 | .inl y => (.exit 4, ⟨[.any, .any, .any, .any, .int .i64 to_, .any, .any, .any, .any, .any, .any, .any, .any, .any, .any, .any, .any, .any, .any, .any, .any, .any, .any, .any, .int .i64 y, .any, .any], [], [], true⟩)
 | .inr y => (.ret, ⟨[.any, .bool y, .any, .any, .any, .any, .any, .any, .any, .any, .any, .any, .any, .any, .any, .any, .any, .any, .any, .any, .any, .any, .any, .any, .any, .any, .any], [], [], true⟩)
set_option maxHeartbeats 8000000 in
theorem laws_FnCovered_l4_ex {list : List Volume} {to_ : Int} {model : List Int} {sgm_ : Int × Int} {rho_ : Int ⊕ Bool} (h : whileE (laws_FnCovered_l4 list to_ model) sgm_ = some rho_) : ∃ L0, ∀ L, L0 ≤ L → iter (exec (look t_laws_FnCovered) L ir3_b2) ir3_k2 ir3_o2 ir3_r2 L (E_laws_FnCovered_l4 list to_ model sgm_) = R_laws_FnCovered_l4 list to_ model rho_ := by
 refine loop_ex (E := E_laws_FnCovered_l4 list to_ model) (R := R_laws_FnCovered_l4 list to_ model) (fun y => by first | (intro c; cases c) | (rcases y with y | y <;> (intro c; cases c)) | (rcases y with y | y | y <;> (intro c; cases c))) ?_ h
 clear h
 rintro ⟨t, i⟩ o_ h
 dsimp only [laws_FnCovered_l4] at h
 rcases it_some h with ⟨z35, h⟩ | ⟨z35, h⟩
 ·try simp only [go_sem, n1, n2, n3, n4] at z35
  all_goals
  obtain ⟨z36, h⟩ := ck_some h
  have lz36 := ix_lt z36
  have xz36 := getD_mapD (AV.int .i64) model lz36
  try simp only [go_sem] at lz36
  try simp only [go_sem] at xz36
  try simp only [go_sem, n1, n2, n3, n4, z35] at z36
  all_goals
  obtain ⟨z37, h⟩ := ck_some h
  have lz37 := ix_lt z37
  have xz37 := getD_mapD Volume_av list lz37
  try simp only [go_sem] at lz37
  try simp only [go_sem] at xz37
  try simp only [go_sem, n1, n2, n3, n4, z35, z36] at z37
  all_goals
  rcases it_some h with ⟨z38, h⟩ | ⟨z38, h⟩
  ·try simp only [go_sem, n1, n2, n3, n4, z35, z36, z37] at z38
   all_goals
   obtain rfl := so_some h
   refine ⟨0, fun L hL => ?_⟩
   simp only [go_sem, ir3, E_laws_FnCovered_l4, R_laws_FnCovered_l4, ir3_b2, ir3_k2, ir3_o2, ir3_r2, E_laws_FnCovered_l2, R_laws_FnCovered_l2, ir3_k1, ir3_o1, ir3_r1, E_laws_FnCovered_l1, R_laws_FnCovered_l1, ir3_k0, ir3_o0, ir3_r0, E_laws_FnCovered_l3, R_laws_FnCovered_l3, ir3_k2, ir3_o2, ir3_r2, z35, z36, lz36, xz36, z37, lz37, xz37, z38]
  ·try simp only [go_sem, n1, n2, n3, n4, z35, z36, z37] at z38
   all_goals
   obtain rfl := so_some h
   refine ⟨0, fun L hL => ?_⟩
   simp only [go_sem, ir3, E_laws_FnCovered_l4, R_laws_FnCovered_l4, ir3_b2, ir3_k2, ir3_o2, ir3_r2, E_laws_FnCovered_l2, R_laws_FnCovered_l2, ir3_k1, ir3_o1, ir3_r1, E_laws_FnCovered_l1, R_laws_FnCovered_l1, ir3_k0, ir3_o0, ir3_r0, E_laws_FnCovered_l3, R_laws_FnCovered_l3, ir3_k2, ir3_o2, ir3_r2, z35, z36, lz36, xz36, z37, lz37, xz37, z38]
 ·try simp only [go_sem, n1, n2, n3, n4] at z35
  all_goals
  obtain rfl := so_some h
  refine ⟨0, fun L hL => ?_⟩
  simp only [go_sem, ir3, E_laws_FnCovered_l4, R_laws_FnCovered_l4, ir3_b2, ir3_k2, ir3_o2, ir3_r2, E_laws_FnCovered_l2, R_laws_FnCovered_l2, ir3_k1, ir3_o1, ir3_r1, E_laws_FnCovered_l1, R_laws_FnCovered_l1, ir3_k0, ir3_o0, ir3_r0, E_laws_FnCovered_l3, R_laws_FnCovered_l3, ir3_k2, ir3_o2, ir3_r2, z35]

set_option maxHeartbeats 8000000 in
theorem Fs_laws_FnCovered {code : List UInt8} {y_ : Bool} (h : laws_FnCovered code = some y_) : c_laws_FnCovered.F [.sl 1 (List.map byteAV code)] = ⟨true, .bool y_, [.any]⟩ := by
 refine mkF_E rfl ?_
 dsimp only [laws_FnCovered] at h
 obtain ⟨y_1, z1, h⟩ := bd_some h
 have fz1 := Fs_0 z1
 try simp only [go_sem] at fz1
 rcases it_some h with ⟨z2, h⟩ | ⟨z2, h⟩
 ·try simp only [go_sem, n1, n2, n3, n4] at z2
  all_goals
  obtain rfl := so_some h
  refine ⟨0, fun L hL => ?_⟩
  simp only [go_sem, ir3, E_laws_FnCovered_l2, R_laws_FnCovered_l2, ir3_k1, ir3_o1, ir3_r1, E_laws_FnCovered_l1, R_laws_FnCovered_l1, ir3_k0, ir3_o0, ir3_r0, E_laws_FnCovered_l3, R_laws_FnCovered_l3, ir3_k2, ir3_o2, ir3_r2, E_laws_FnCovered_l4, R_laws_FnCovered_l4, ir3_k2, ir3_o2, ir3_r2, fz1, z2]
 ·try simp only [go_sem, n1, n2, n3, n4] at z2
  all_goals
  obtain ⟨y_3, z3, h⟩ := bd_some h
  have fz3 := Fs_12 z3
  try simp only [go_sem, z2] at fz3
  obtain ⟨y_4, z4, h⟩ := bd_some h
  have fz4 := Fs_21 z4
  try simp only [go_sem, z2] at fz4
  obtain ⟨y_5, z5, h⟩ := bd_some h
  have fz5 := Fs_31 z5
  try simp only [go_sem, z2] at fz5
  obtain ⟨y_6, z6, h⟩ := bd_some h
  have fz6 := Fs_48 z6
  try simp only [go_sem, z2] at fz6
  obtain ⟨y_7, z7, h⟩ := bd_some h
  have fz7 := Fs_50 z7
  try simp only [go_sem, z2] at fz7
  obtain ⟨y_8, z8, h⟩ := bd_some h
  have fz8 := Fs_51 z8
  try simp only [go_sem, z2] at fz8
  obtain ⟨y_9, z9, h⟩ := bd_some h
  have fz9 := Fs_48 z9
  try simp only [go_sem, z2] at fz9
  obtain ⟨y_10, z10, h⟩ := bd_some h
  have fz10 := Fs_50 z10
  try simp only [go_sem, z2] at fz10
  obtain ⟨z11, h⟩ := ck_some h
  rcases or_split z11 with ⟨gz11, z11⟩ | gz11
  ·try simp only [go_sem, n1, n2, n3, n4, z2] at gz11
   all_goals
   obtain ⟨y_11, hz11⟩ := Option.isSome_iff_exists.1 z11
   have fz11 := Fs_52 hz11
   try simp only [go_sem, n1, n2, n3, n4, z2, gz11] at hz11
   all_goals
   try simp only [go_sem, z2, gz11] at fz11
   obtain ⟨z12, h⟩ := ck_some h
   rcases or_split z12 with ⟨gz12, z12⟩ | gz12
   ·try simp only [go_sem, n1, n2, n3, n4, z2, gz11, hz11] at gz12
    all_goals
    obtain ⟨y_12, hz12⟩ := Option.isSome_iff_exists.1 z12
    have fz12 := Fs_54 hz12
    try simp only [go_sem, n1, n2, n3, n4, z2, gz11, hz11, gz12] at hz12
    all_goals
    try simp only [go_sem, z2, gz11, hz11, gz12] at fz12
    obtain ⟨z13, h⟩ := ck_some h
    rcases or_split z13 with ⟨gz13, z13⟩ | gz13
    ·try simp only [go_sem, n1, n2, n3, n4, z2, gz11, hz11, gz12, hz12] at gz13
     all_goals
     obtain ⟨y_13, hz13⟩ := Option.isSome_iff_exists.1 z13
     have fz13 := Fs_54 hz13
     try simp only [go_sem, n1, n2, n3, n4, z2, gz11, hz11, gz12, hz12, gz13] at hz13
     all_goals
     try simp only [go_sem, z2, gz11, hz11, gz12, hz12, gz13] at fz13
     rcases it_some h with ⟨z14, h⟩ | ⟨z14, h⟩
     ·try simp only [go_sem, n1, n2, n3, n4, z2, gz11, hz11, gz12, hz12, gz13, hz13] at z14
      all_goals
      obtain rfl := so_some h
      refine ⟨0, fun L hL => ?_⟩
      simp only [go_sem, ir3, E_laws_FnCovered_l2, R_laws_FnCovered_l2, ir3_k1, ir3_o1, ir3_r1, E_laws_FnCovered_l1, R_laws_FnCovered_l1, ir3_k0, ir3_o0, ir3_r0, E_laws_FnCovered_l3, R_laws_FnCovered_l3, ir3_k2, ir3_o2, ir3_r2, E_laws_FnCovered_l4, R_laws_FnCovered_l4, ir3_k2, ir3_o2, ir3_r2, fz1, z2, fz3, fz4, fz5, fz6, fz7, fz8, fz9, fz10, gz11, hz11, fz11, gz12, hz12, fz12, gz13, hz13, fz13, z14]
     ·try simp only [go_sem, n1, n2, n3, n4, z2, gz11, hz11, gz12, hz12, gz13, hz13] at z14
      all_goals
      rcases it_some h with ⟨z15, h⟩ | ⟨z15, h⟩
      ·try simp only [go_sem, n1, n2, n3, n4, z2, gz11, hz11, gz12, hz12, gz13, hz13, z14] at z15
       all_goals
       obtain ⟨y_25, z25, h⟩ := bd_some h
       obtain ⟨Lz25, ez25⟩ := laws_FnCovered_l1_ex z25
       rcases y_25 with y_25a | y_25b
       ·dsimp only at h
        rcases it_some h with ⟨z26, h⟩ | ⟨z26, h⟩
        ·try simp only [go_sem, n1, n2, n3, n4, z2, gz11, hz11, gz12, hz12, gz13, hz13, z14, z15] at z26
         all_goals
         obtain rfl := so_some h
         refine ⟨Lz25, fun L hL => ?_⟩
         have ez25 := ez25 L (by omega)
         try simp only [go_sem, E_laws_FnCovered_l2, R_laws_FnCovered_l2, ir3_k1, ir3_o1, ir3_r1, E_laws_FnCovered_l1, R_laws_FnCovered_l1, ir3_k0, ir3_o0, ir3_r0, E_laws_FnCovered_l3, R_laws_FnCovered_l3, ir3_k2, ir3_o2, ir3_r2, E_laws_FnCovered_l4, R_laws_FnCovered_l4, ir3_k2, ir3_o2, ir3_r2, z2, gz11, hz11, gz12, hz12, gz13, hz13, z14, z15, z26] at ez25
         simp only [go_sem, ir3, E_laws_FnCovered_l2, R_laws_FnCovered_l2, ir3_k1, ir3_o1, ir3_r1, E_laws_FnCovered_l1, R_laws_FnCovered_l1, ir3_k0, ir3_o0, ir3_r0, E_laws_FnCovered_l3, R_laws_FnCovered_l3, ir3_k2, ir3_o2, ir3_r2, E_laws_FnCovered_l4, R_laws_FnCovered_l4, ir3_k2, ir3_o2, ir3_r2, fz1, z2, fz3, fz4, fz5, fz6, fz7, fz8, fz9, fz10, gz11, hz11, fz11, gz12, hz12, fz12, gz13, hz13, fz13, z14, z15, z26, ez25]
        ·try simp only [go_sem, n1, n2, n3, n4, z2, gz11, hz11, gz12, hz12, gz13, hz13, z14, z15] at z26
         all_goals
         rcases it_some h with ⟨z27, h⟩ | ⟨z27, h⟩
         ·try simp only [go_sem, n1, n2, n3, n4, z2, gz11, hz11, gz12, hz12, gz13, hz13, z14, z15, z26] at z27
          all_goals
          have z26qz27 := z26
          try simp only [go_sem, n1, n2, n3, n4, z27] at z26qz27
          obtain rfl := so_some h
          refine ⟨Lz25, fun L hL => ?_⟩
          have ez25 := ez25 L (by omega)
          try simp only [go_sem, E_laws_FnCovered_l2, R_laws_FnCovered_l2, ir3_k1, ir3_o1, ir3_r1, E_laws_FnCovered_l1, R_laws_FnCovered_l1, ir3_k0, ir3_o0, ir3_r0, E_laws_FnCovered_l3, R_laws_FnCovered_l3, ir3_k2, ir3_o2, ir3_r2, E_laws_FnCovered_l4, R_laws_FnCovered_l4, ir3_k2, ir3_o2, ir3_r2, z2, gz11, hz11, gz12, hz12, gz13, hz13, z14, z15, z26, z27, z26qz27] at ez25
          simp only [go_sem, ir3, E_laws_FnCovered_l2, R_laws_FnCovered_l2, ir3_k1, ir3_o1, ir3_r1, E_laws_FnCovered_l1, R_laws_FnCovered_l1, ir3_k0, ir3_o0, ir3_r0, E_laws_FnCovered_l3, R_laws_FnCovered_l3, ir3_k2, ir3_o2, ir3_r2, E_laws_FnCovered_l4, R_laws_FnCovered_l4, ir3_k2, ir3_o2, ir3_r2, fz1, z2, fz3, fz4, fz5, fz6, fz7, fz8, fz9, fz10, gz11, hz11, fz11, gz12, hz12, fz12, gz13, hz13, fz13, z14, z15, z26, z27, z26qz27, ez25]
         ·try simp only [go_sem, n1, n2, n3, n4, z2, gz11, hz11, gz12, hz12, gz13, hz13, z14, z15, z26] at z27
          all_goals
          have z26qz27 := z26
          try simp only [go_sem, n1, n2, n3, n4, z27] at z26qz27
          obtain ⟨y_32, z32, h⟩ := bd_some h
          obtain ⟨Lz32, ez32⟩ := laws_FnCovered_l3_ex z32
          rcases y_32 with y_32a | y_32b
          ·dsimp only at h
           obtain rfl := so_some h
           refine ⟨Lz25 + Lz32, fun L hL => ?_⟩
           have ez25 := ez25 L (by omega)
           have ez32 := ez32 L (by omega)
           try simp only [go_sem, E_laws_FnCovered_l2, R_laws_FnCovered_l2, ir3_k1, ir3_o1, ir3_r1, E_laws_FnCovered_l1, R_laws_FnCovered_l1, ir3_k0, ir3_o0, ir3_r0, E_laws_FnCovered_l3, R_laws_FnCovered_l3, ir3_k2, ir3_o2, ir3_r2, E_laws_FnCovered_l4, R_laws_FnCovered_l4, ir3_k2, ir3_o2, ir3_r2, z2, gz11, hz11, gz12, hz12, gz13, hz13, z14, z15, z26, z27, z26qz27] at ez25
           try simp only [go_sem, E_laws_FnCovered_l2, R_laws_FnCovered_l2, ir3_k1, ir3_o1, ir3_r1, E_laws_FnCovered_l1, R_laws_FnCovered_l1, ir3_k0, ir3_o0, ir3_r0, E_laws_FnCovered_l3, R_laws_FnCovered_l3, ir3_k2, ir3_o2, ir3_r2, E_laws_FnCovered_l4, R_laws_FnCovered_l4, ir3_k2, ir3_o2, ir3_r2, z2, gz11, hz11, gz12, hz12, gz13, hz13, z14, z15, z26, z27, z26qz27] at ez32
           simp only [go_sem, ir3, E_laws_FnCovered_l2, R_laws_FnCovered_l2, ir3_k1, ir3_o1, ir3_r1, E_laws_FnCovered_l1, R_laws_FnCovered_l1, ir3_k0, ir3_o0, ir3_r0, E_laws_FnCovered_l3, R_laws_FnCovered_l3, ir3_k2, ir3_o2, ir3_r2, E_laws_FnCovered_l4, R_laws_FnCovered_l4, ir3_k2, ir3_o2, ir3_r2, fz1, z2, fz3, fz4, fz5, fz6, fz7, fz8, fz9, fz10, gz11, hz11, fz11, gz12, hz12, fz12, gz13, hz13, fz13, z14, z15, z26, z27, z26qz27, ez25, ez32]
          ·dsimp only at h
           obtain rfl := so_some h
           refine ⟨Lz25 + Lz32, fun L hL => ?_⟩
           have ez25 := ez25 L (by omega)
           have ez32 := ez32 L (by omega)
           try simp only [go_sem, E_laws_FnCovered_l2, R_laws_FnCovered_l2, ir3_k1, ir3_o1, ir3_r1, E_laws_FnCovered_l1, R_laws_FnCovered_l1, ir3_k0, ir3_o0, ir3_r0, E_laws_FnCovered_l3, R_laws_FnCovered_l3, ir3_k2, ir3_o2, ir3_r2, E_laws_FnCovered_l4, R_laws_FnCovered_l4, ir3_k2, ir3_o2, ir3_r2, z2, gz11, hz11, gz12, hz12, gz13, hz13, z14, z15, z26, z27, z26qz27] at ez25
           try simp only [go_sem, E_laws_FnCovered_l2, R_laws_FnCovered_l2, ir3_k1, ir3_o1, ir3_r1, E_laws_FnCovered_l1, R_laws_FnCovered_l1, ir3_k0, ir3_o0, ir3_r0, E_laws_FnCovered_l3, R_laws_FnCovered_l3, ir3_k2, ir3_o2, ir3_r2, E_laws_FnCovered_l4, R_laws_FnCovered_l4, ir3_k2, ir3_o2, ir3_r2, z2, gz11, hz11, gz12, hz12, gz13, hz13, z14, z15, z26, z27, z26qz27] at ez32
           simp only [go_sem, ir3, E_laws_FnCovered_l2, R_laws_FnCovered_l2, ir3_k1, ir3_o1, ir3_r1, E_laws_FnCovered_l1, R_laws_FnCovered_l1, ir3_k0, ir3_o0, ir3_r0, E_laws_FnCovered_l3, R_laws_FnCovered_l3, ir3_k2, ir3_o2, ir3_r2, E_laws_FnCovered_l4, R_laws_FnCovered_l4, ir3_k2, ir3_o2, ir3_r2, fz1, z2, fz3, fz4, fz5, fz6, fz7, fz8, fz9, fz10, gz11, hz11, fz11, gz12, hz12, fz12, gz13, hz13, fz13, z14, z15, z26, z27, z26qz27, ez25, ez32]
       ·dsimp only at h
        obtain rfl := so_some h
        refine ⟨Lz25, fun L hL => ?_⟩
        have ez25 := ez25 L (by omega)
        try simp only [go_sem, E_laws_FnCovered_l2, R_laws_FnCovered_l2, ir3_k1, ir3_o1, ir3_r1, E_laws_FnCovered_l1, R_laws_FnCovered_l1, ir3_k0, ir3_o0, ir3_r0, E_laws_FnCovered_l3, R_laws_FnCovered_l3, ir3_k2, ir3_o2, ir3_r2, E_laws_FnCovered_l4, R_laws_FnCovered_l4, ir3_k2, ir3_o2, ir3_r2, z2, gz11, hz11, gz12, hz12, gz13, hz13, z14, z15] at ez25
        simp only [go_sem, ir3, E_laws_FnCovered_l2, R_laws_FnCovered_l2, ir3_k1, ir3_o1, ir3_r1, E_laws_FnCovered_l1, R_laws_FnCovered_l1, ir3_k0, ir3_o0, ir3_r0, E_laws_FnCovered_l3, R_laws_FnCovered_l3, ir3_k2, ir3_o2, ir3_r2, E_laws_FnCovered_l4, R_laws_FnCovered_l4, ir3_k2, ir3_o2, ir3_r2, fz1, z2, fz3, fz4, fz5, fz6, fz7, fz8, fz9, fz10, gz11, hz11, fz11, gz12, hz12, fz12, gz13, hz13, fz13, z14, z15, ez25]
      ·try simp only [go_sem, n1, n2, n3, n4, z2, gz11, hz11, gz12, hz12, gz13, hz13, z14] at z15
       all_goals
       rcases it_some h with ⟨z33, h⟩ | ⟨z33, h⟩
       ·try simp only [go_sem, n1, n2, n3, n4, z2, gz11, hz11, gz12, hz12, gz13, hz13, z14, z15] at z33
        all_goals
        obtain rfl := so_some h
        refine ⟨0, fun L hL => ?_⟩
        simp only [go_sem, ir3, E_laws_FnCovered_l2, R_laws_FnCovered_l2, ir3_k1, ir3_o1, ir3_r1, E_laws_FnCovered_l1, R_laws_FnCovered_l1, ir3_k0, ir3_o0, ir3_r0, E_laws_FnCovered_l3, R_laws_FnCovered_l3, ir3_k2, ir3_o2, ir3_r2, E_laws_FnCovered_l4, R_laws_FnCovered_l4, ir3_k2, ir3_o2, ir3_r2, fz1, z2, fz3, fz4, fz5, fz6, fz7, fz8, fz9, fz10, gz11, hz11, fz11, gz12, hz12, fz12, gz13, hz13, fz13, z14, z15, z33]
       ·try simp only [go_sem, n1, n2, n3, n4, z2, gz11, hz11, gz12, hz12, gz13, hz13, z14, z15] at z33
        all_goals
        rcases it_some h with ⟨z34, h⟩ | ⟨z34, h⟩
        ·try simp only [go_sem, n1, n2, n3, n4, z2, gz11, hz11, gz12, hz12, gz13, hz13, z14, z15, z33] at z34
         all_goals
         have z33qz34 := z33
         try simp only [go_sem, n1, n2, n3, n4, z34] at z33qz34
         obtain rfl := so_some h
         refine ⟨0, fun L hL => ?_⟩
         simp only [go_sem, ir3, E_laws_FnCovered_l2, R_laws_FnCovered_l2, ir3_k1, ir3_o1, ir3_r1, E_laws_FnCovered_l1, R_laws_FnCovered_l1, ir3_k0, ir3_o0, ir3_r0, E_laws_FnCovered_l3, R_laws_FnCovered_l3, ir3_k2, ir3_o2, ir3_r2, E_laws_FnCovered_l4, R_laws_FnCovered_l4, ir3_k2, ir3_o2, ir3_r2, fz1, z2, fz3, fz4, fz5, fz6, fz7, fz8, fz9, fz10, gz11, hz11, fz11, gz12, hz12, fz12, gz13, hz13, fz13, z14, z15, z33, z34, z33qz34]
        ·try simp only [go_sem, n1, n2, n3, n4, z2, gz11, hz11, gz12, hz12, gz13, hz13, z14, z15, z33] at z34
         all_goals
         have z33qz34 := z33
         try simp only [go_sem, n1, n2, n3, n4, z34] at z33qz34
         obtain ⟨y_39, z39, h⟩ := bd_some h
         obtain ⟨Lz39, ez39⟩ := laws_FnCovered_l4_ex z39
         rcases y_39 with y_39a | y_39b
         ·dsimp only at h
          obtain rfl := so_some h
          refine ⟨Lz39, fun L hL => ?_⟩
          have ez39 := ez39 L (by omega)
          try simp only [go_sem, E_laws_FnCovered_l2, R_laws_FnCovered_l2, ir3_k1, ir3_o1, ir3_r1, E_laws_FnCovered_l1, R_laws_FnCovered_l1, ir3_k0, ir3_o0, ir3_r0, E_laws_FnCovered_l3, R_laws_FnCovered_l3, ir3_k2, ir3_o2, ir3_r2, E_laws_FnCovered_l4, R_laws_FnCovered_l4, ir3_k2, ir3_o2, ir3_r2, z2, gz11, hz11, gz12, hz12, gz13, hz13, z14, z15, z33, z34, z33qz34] at ez39
          simp only [go_sem, ir3, E_laws_FnCovered_l2, R_laws_FnCovered_l2, ir3_k1, ir3_o1, ir3_r1, E_laws_FnCovered_l1, R_laws_FnCovered_l1, ir3_k0, ir3_o0, ir3_r0, E_laws_FnCovered_l3, R_laws_FnCovered_l3, ir3_k2, ir3_o2, ir3_r2, E_laws_FnCovered_l4, R_laws_FnCovered_l4, ir3_k2, ir3_o2, ir3_r2, fz1, z2, fz3, fz4, fz5, fz6, fz7, fz8, fz9, fz10, gz11, hz11, fz11, gz12, hz12, fz12, gz13, hz13, fz13, z14, z15, z33, z34, z33qz34, ez39]
         ·dsimp only at h
          obtain rfl := so_some h
          refine ⟨Lz39, fun L hL => ?_⟩
          have ez39 := ez39 L (by omega)
          try simp only [go_sem, E_laws_FnCovered_l2, R_laws_FnCovered_l2, ir3_k1, ir3_o1, ir3_r1, E_laws_FnCovered_l1, R_laws_FnCovered_l1, ir3_k0, ir3_o0, ir3_r0, E_laws_FnCovered_l3, R_laws_FnCovered_l3, ir3_k2, ir3_o2, ir3_r2, E_laws_FnCovered_l4, R_laws_FnCovered_l4, ir3_k2, ir3_o2, ir3_r2, z2, gz11, hz11, gz12, hz12, gz13, hz13, z14, z15, z33, z34, z33qz34] at ez39
          simp only [go_sem, ir3, E_laws_FnCovered_l2, R_laws_FnCovered_l2, ir3_k1, ir3_o1, ir3_r1, E_laws_FnCovered_l1, R_laws_FnCovered_l1, ir3_k0, ir3_o0, ir3_r0, E_laws_FnCovered_l3, R_laws_FnCovered_l3, ir3_k2, ir3_o2, ir3_r2, E_laws_FnCovered_l4, R_laws_FnCovered_l4, ir3_k2, ir3_o2, ir3_r2, fz1, z2, fz3, fz4, fz5, fz6, fz7, fz8, fz9, fz10, gz11, hz11, fz11, gz12, hz12, fz12, gz13, hz13, fz13, z14, z15, z33, z34, z33qz34, ez39]
    ·have gz13n := no_f gz13
     try simp only [go_sem, n1, n2, n3, n4, z2, gz11, hz11, gz12, hz12] at gz13n
     all_goals
     rcases it_some h with ⟨z14, h⟩ | ⟨z14, h⟩
     ·try simp only [go_sem, n1, n2, n3, n4, z2, gz11, hz11, gz12, hz12, gz13n] at z14
      all_goals
      obtain rfl := so_some h
      refine ⟨0, fun L hL => ?_⟩
      simp only [go_sem, ir3, E_laws_FnCovered_l2, R_laws_FnCovered_l2, ir3_k1, ir3_o1, ir3_r1, E_laws_FnCovered_l1, R_laws_FnCovered_l1, ir3_k0, ir3_o0, ir3_r0, E_laws_FnCovered_l3, R_laws_FnCovered_l3, ir3_k2, ir3_o2, ir3_r2, E_laws_FnCovered_l4, R_laws_FnCovered_l4, ir3_k2, ir3_o2, ir3_r2, fz1, z2, fz3, fz4, fz5, fz6, fz7, fz8, fz9, fz10, gz11, hz11, fz11, gz12, hz12, fz12, gz13n, z14]
     ·try simp only [go_sem, n1, n2, n3, n4, z2, gz11, hz11, gz12, hz12, gz13n] at z14
      all_goals
      (simp_all)
   ·have gz12n := no_f gz12
    rcases or_t gz12n with gz12na | ⟨gz12na, gz12nb⟩
    ·rcases or_t gz12na with gz12naa | ⟨gz12naa, gz12nab⟩
     ·try simp only [go_sem, n1, n2, n3, n4, z2, gz11, hz11] at gz12naa
      all_goals
      (simp_all)
     ·have gz12naan := no_f gz12naa
      have gz12nabn := no_t gz12nab
      try simp only [go_sem, n1, n2, n3, n4, z2, gz11, hz11] at gz12naan
      all_goals
      try simp only [go_sem, n1, n2, n3, n4, z2, gz11, hz11, gz12naan] at gz12nabn
      all_goals
      obtain ⟨z13, h⟩ := ck_some h
      rcases it_some h with ⟨z14, h⟩ | ⟨z14, h⟩
      ·try simp only [go_sem, n1, n2, n3, n4, z2, gz11, hz11, gz12naan, gz12nabn] at z14
       all_goals
       obtain rfl := so_some h
       refine ⟨0, fun L hL => ?_⟩
       simp only [go_sem, ir3, E_laws_FnCovered_l2, R_laws_FnCovered_l2, ir3_k1, ir3_o1, ir3_r1, E_laws_FnCovered_l1, R_laws_FnCovered_l1, ir3_k0, ir3_o0, ir3_r0, E_laws_FnCovered_l3, R_laws_FnCovered_l3, ir3_k2, ir3_o2, ir3_r2, E_laws_FnCovered_l4, R_laws_FnCovered_l4, ir3_k2, ir3_o2, ir3_r2, fz1, z2, fz3, fz4, fz5, fz6, fz7, fz8, fz9, fz10, gz11, hz11, fz11, gz12naan, gz12nabn, z14]
      ·try simp only [go_sem, n1, n2, n3, n4, z2, gz11, hz11, gz12naan, gz12nabn] at z14
       all_goals
       (simp_all)
    ·obtain ⟨gz12naa, gz12nab⟩ := or_f gz12na
     have gz12naan := no_f gz12naa
     have gz12nabn := no_f gz12nab
     have gz12nbn := no_t gz12nb
     try simp only [go_sem, n1, n2, n3, n4, z2, gz11, hz11] at gz12naan
     all_goals
     try simp only [go_sem, n1, n2, n3, n4, z2, gz11, hz11, gz12naan] at gz12nabn
     all_goals
     try simp only [go_sem, n1, n2, n3, n4, z2, gz11, hz11, gz12naan, gz12nabn] at gz12nbn
     all_goals
     obtain ⟨z13, h⟩ := ck_some h
     rcases it_some h with ⟨z14, h⟩ | ⟨z14, h⟩
     ·try simp only [go_sem, n1, n2, n3, n4, z2, gz11, hz11, gz12naan, gz12nabn, gz12nbn] at z14
      all_goals
      obtain rfl := so_some h
      refine ⟨0, fun L hL => ?_⟩
      simp only [go_sem, ir3, E_laws_FnCovered_l2, R_laws_FnCovered_l2, ir3_k1, ir3_o1, ir3_r1, E_laws_FnCovered_l1, R_laws_FnCovered_l1, ir3_k0, ir3_o0, ir3_r0, E_laws_FnCovered_l3, R_laws_FnCovered_l3, ir3_k2, ir3_o2, ir3_r2, E_laws_FnCovered_l4, R_laws_FnCovered_l4, ir3_k2, ir3_o2, ir3_r2, fz1, z2, fz3, fz4, fz5, fz6, fz7, fz8, fz9, fz10, gz11, hz11, fz11, gz12naan, gz12nabn, gz12nbn, z14]
     ·try simp only [go_sem, n1, n2, n3, n4, z2, gz11, hz11, gz12naan, gz12nabn, gz12nbn] at z14
      all_goals
      (simp_all)
  ·have gz11n := no_f gz11
   have gz11nn := no_t gz11n
   try simp only [go_sem, n1, n2, n3, n4, z2] at gz11nn
   all_goals
   obtain ⟨z12, h⟩ := ck_some h
   obtain ⟨z13, h⟩ := ck_some h
   rcases it_some h with ⟨z14, h⟩ | ⟨z14, h⟩
   ·try simp only [go_sem, n1, n2, n3, n4, z2, gz11nn] at z14
    all_goals
    obtain rfl := so_some h
    refine ⟨0, fun L hL => ?_⟩
    simp only [go_sem, ir3, E_laws_FnCovered_l2, R_laws_FnCovered_l2, ir3_k1, ir3_o1, ir3_r1, E_laws_FnCovered_l1, R_laws_FnCovered_l1, ir3_k0, ir3_o0, ir3_r0, E_laws_FnCovered_l3, R_laws_FnCovered_l3, ir3_k2, ir3_o2, ir3_r2, E_laws_FnCovered_l4, R_laws_FnCovered_l4, ir3_k2, ir3_o2, ir3_r2, fz1, z2, fz3, fz4, fz5, fz6, fz7, fz8, fz9, fz10, gz11nn, z14]
   ·try simp only [go_sem, n1, n2, n3, n4, z2, gz11nn] at z14
    all_goals
    (simp_all)


end Go.Proofs.Ytikaacjlnkfebaa
