/- Codes and contracts of the functions that OS reaches, and that their typed forms say what they do. No condition. -/
import Derived.Test.YtikaacjlnkfebaaEngLast
import Derived.Test.YtikaacjlnkfebaaRows
import Derived.WalkKit
namespace Go.Proofs.Ytikaacjlnkfebaa
open Go Go.RowKit
set_option linter.unusedVariables false
set_option linter.unusedSimpArgs false
set_option maxRecDepth 10000

def ir5_b1 : IR := .seq (.test false [ PM 85 11, PM 86 7, PO 87 (.len false (.s 0)), PO 88 (.bin false .lss (.s 2) (.s 0))] (.s 0) (.skip) (.exit 2)) (.seq (.block 3 (.anyo 10 [ SO 0 91 (.mov (.v 7)), SO 1 92 (.mov (.v 11)), SO 2 93 (.ixAddr 5 (.s 0) (.s 1)), SO 3 94 (.fldAddr 1 (.s 2)), SO 4 95 (.load false 1 (.s 3)), SO 5 96 (.mov (.v 3)), SO 6 97 (.mov (.v 6)), SO 7 98 (.ixAddr 1 (.s 5) (.s 6)), SO 8 99 (.load false 1 (.s 7)), SO 9 100 (.bin false .neq (.s 4) (.s 8))] [] (.cond (.s 9) (.seq (.region false [ VO 1 2 (.mov (.c (.bool false)))]) (.ret)) (.skip)))) (.region false [ PM 89 11, PO
 90 (.bin false .add (.s 0) (I6 1)), VS 11 12 0]))
def ir5_k1 : List Bool := [false, false, true, true, false, true, true, true, false, false, false, true]
def ir5_o1 : List Bool := [false, false, true, true, false, true, true, true, false, false, false, false]
def ir5_r1 : List Bool := [false, true, false, false, false, false, false, false, false, false, false, false]
def ir5_b0 : IR := .seq (.test false [ PM 24 6, PM 25 3, PO 26 (.len false (.s 0)), PO 27 (.bin false .lss (.s 2) (.s 0))] (.s 0) (.skip) (.exit 0)) (.seq (.block 1 (.seq (.region false [ PM 31 2, PM 32 3, PM 33 6, PO 34 (.ixAddr 1 (.s 1) (.s 0)), PO 35 (.load false 1 (.s 0)), PO 36 (.call 36 [(.s 4), (.s 0), (I6 0), (I6 10000000)]), PO 30 (.mov (.s 0)), PO 37 (.ext (.s 0) 0), PO 38 (.ext (.s 1) 1), VS 7 8 1, VS 8 9 0]) (.seq (.region false [ PM 40 2, PM 41 3, PM 42 6, PO 43 (.ixAddr 1 (.s 1) (.s 0)), PO 44 (.load false 1 (.s 0)), PO 45 (.call 37 [(.s 4), (.s 0)]), PO 39 (.mov (.s 0)), PO 46
 (.ext (.s 0) 0), PO 47 (.ext (.s 1) 1), VO 9 10 (.alloc (.agg [.int .i64 (0), .str [], .str [], .int .i64 (0), .bool false])), ⟨.no, 0, none, .store 5 (.v 9) (.s 1)⟩, VS 10 11 0]) (.seq (.anyo 37 [ SO 0 48 (.mov (.v 8)), SO 1 49 (.bin false .neq (.s 0) (I6 0)), SO 2 50 (.mov (.s 1)), ⟨.slot 3, 51, (some ((.s 2), false)), .mov (.v 10)⟩, ⟨.slot 4, 52, (some ((.s 2), false)), .bin false .neq (.s 3) (I6 0)⟩, SO 5 53 (.pick (.s 2) (.c (.bool true)) (.s 4)), SO 6 54 (.mov (.s 5)), ⟨.slot 7, 55, (some ((.s 6), false)), .mov (.v 7)⟩, ⟨.slot 8, 56, (some ((.s 6), false)), .len false (.s 7)⟩, ⟨.slot 9,
 57, (some ((.s 6), false)), .bin false .eql (.s 8) (I6 0)⟩, SO 10 58 (.pick (.s 6) (.c (.bool true)) (.s 9)), SO 11 59 (.mov (.s 10)), ⟨.slot 12, 60, (some ((.s 11), false)), .mov (.v 7)⟩, ⟨.slot 13, 61, (some ((.s 11), false)), .mov (.v 7)⟩, ⟨.slot 14, 62, (some ((.s 11), false)), .len false (.s 13)⟩, ⟨.slot 15, 63, (some ((.s 11), false)), .bin false .sub (.s 14) (I6 1)⟩, ⟨.slot 16, 64, (some ((.s 11), false)), .ixAddr 5 (.s 12) (.s 15)⟩, ⟨.slot 17, 65, (some ((.s 11), false)), .load true 5 (.s 16)⟩, ⟨.slot 18, 66, (some ((.s 11), false)), .load true 5 (.v 9)⟩, ⟨.slot 19, 67, (some ((.s 11),
 false)), .eqA true [1, 2, 2, 1, 0] (.s 17) (.s 18)⟩, SO 20 68 (.pick (.s 11) (.c (.bool true)) (.s 19)), SO 21 69 (.mov (.s 20)), ⟨.slot 22, 70, (some ((.s 21), false)), .mov (.v 6)⟩, ⟨.slot 23, 71, (some ((.s 21), false)), .bin false .gtr (.s 22) (I6 0)⟩, ⟨.slot 24, 72, (some ((.s 21), false)), .mov (.s 23)⟩, ⟨.slot 25, 73, (some ((.s 24), true)), .mov (.v 3)⟩, ⟨.slot 26, 74, (some ((.s 24), true)), .mov (.v 6)⟩, ⟨.slot 27, 75, (some ((.s 24), true)), .bin false .sub (.s 26) (I6 1)⟩, ⟨.slot 28, 76, (some ((.s 24), true)), .ixAddr 1 (.s 25) (.s 27)⟩, ⟨.slot 29, 77, (some ((.s 24), true)),
 .load false 1 (.s 28)⟩, ⟨.slot 30, 78, (some ((.s 24), true)), .mov (.v 3)⟩, ⟨.slot 31, 79, (some ((.s 24), true)), .mov (.v 6)⟩, ⟨.slot 32, 80, (some ((.s 24), true)), .ixAddr 1 (.s 30) (.s 31)⟩, ⟨.slot 33, 81, (some ((.s 24), true)), .load false 1 (.s 32)⟩, ⟨.slot 34, 82, (some ((.s 24), true)), .bin false .geq (.s 29) (.s 33)⟩, ⟨.slot 35, 83, (some ((.s 21), false)), .pick (.s 24) (.s 34) (.c (.bool false))⟩, SO 36 84 (.pick (.s 21) (.c (.bool true)) (.s 35))] [] (.cond (.s 36) (.seq (.region false [ VO 1 2 (.mov (.c (.bool false)))]) (.ret)) (.skip))) (.seq (.seq (.region false [ VO 11 12
 (.mov (I6 0))]) (.block 2 (.loop ir5_k1 ir5_o1 ir5_r1 ir5_b1))) (.region false [ PM 101 5, PM 102 7, PO 103 (.len false (.s 0)), PO 104 (.bin false .add (.s 2) (.s 0)), VS 5 6 0])))))) (.region false [ PM 28 6, PO 29 (.bin false .add (.s 0) (I6 1)), VS 6 7 0]))
def ir5_k0 : List Bool := [false, false, true, true, false, true, true, false, false, false, false, false]
def ir5_o0 : List Bool := [false, false, true, false, false, true, false, false, false, false, false, false]
def ir5_r0 : List Bool := [false, true, false, false, false, false, false, false, false, false, false, false]
def ir5_v : List Nat := [0, 2, 3, 4, 5, 6, 7, 8, 9, 10, 11, 12]
def ir5 : AFn := ⟨1, 12, .seq (.region false [ VO 1 2 (.mov (.c (.bool false)))]) (.seq (.test false [ PM 13 0, PO 14 (.call 33 [(.s 0), (.c (.sl 1 []))])] (.s 0) (.seq (.region false [ VO 1 2 (.mov (.c (.bool true)))]) (.ret)) (.skip)) (.seq (.region false [ PM 15 0, PO 16 (.call 34 [(.s 0)]), VO 2 3 (.movz (.s 0))]) (.seq (.region false [ PM 18 2, PO 19 (.call 35 [(.s 0)]), PO 17 (.mov (.s 0)), PO 20 (.ext (.s 0) 0), PO 21 (.ext (.s 1) 1), VS 3 4 1, VS 4 5 0]) (.seq (.test false [ PM 22 4, PO 23 (.bin false .neq (.s 0) (I6 0))] (.s 0) (.seq (.region false [ VO 1 2 (.mov (.c (.bool false)))])
 (.ret)) (.skip)) (.seq (.region false [ VO 5 6 (.mov (I6 0))]) (.seq (.seq (.region false [ VO 6 7 (.mov (I6 0))]) (.block 0 (.loop ir5_k0 ir5_o0 ir5_r0 ir5_b0))) (.seq (.region false [ PM 105 5, PM 106 2, PO 107 (.len false (.s 0)), PO 108 (.bin false .eql (.s 2) (.s 0)), VS 1 2 0]) (.ret)))))))), [.t 1]⟩
noncomputable def t_laws_FnOfStars : List (Nat × Ctr) := [(33, c_0), (34, c_11), (35, c_29), (36, c_32), (37, c_impl_LastOf)]
theorem lk_laws_FnOfStars_33 : look t_laws_FnOfStars 33 = some c_0 := rfl
theorem lk_laws_FnOfStars_34 : look t_laws_FnOfStars 34 = some c_11 := rfl
theorem lk_laws_FnOfStars_35 : look t_laws_FnOfStars 35 = some c_29 := rfl
theorem lk_laws_FnOfStars_36 : look t_laws_FnOfStars 36 = some c_32 := rfl
theorem lk_laws_FnOfStars_37 : look t_laws_FnOfStars 37 = some c_impl_LastOf := rfl
noncomputable def c_laws_FnOfStars : Ctr := mkF t_laws_FnOfStars ir5 [.bor]
theorem s_laws_FnOfStars : Sound Try.prog 5 c_laws_FnOfStars := mkF_sound _ rfl (snd_cons s_0 (snd_cons s_11 (snd_cons s_29 (snd_cons s_32 (snd_cons s_impl_LastOf snd_nil))))) (by kernel_rfl : chkFn Try.prog 5 ir5 ir5_v = true)
theorem M_laws_FnOfStars : c_laws_FnOfStars.modes = [.bor] := rfl
theorem Fl_laws_FnOfStars : c_laws_FnOfStars.flat = true := rfl
attribute [go_sem] M_laws_FnOfStars Fl_laws_FnOfStars
attribute [go_sem] lk_laws_FnOfStars_33 lk_laws_FnOfStars_34 lk_laws_FnOfStars_35 lk_laws_FnOfStars_36 lk_laws_FnOfStars_37
def E_laws_FnOfStars_l2 (list : List Estimate) (stars : List (List UInt8)) (many : Int) (k : Int) (some_ : List Estimate) : Int → St
 | i => ⟨[.any, .any, .sl 5 (List.map Estimate_av list), .own 3200000, .any, .int .i64 many, .int .i64 k, .own 3200032, .any, .any, .any, .int .i64 i], [], [(3200000, ⟨1, List.map AV.str stars⟩), (3200032, ⟨5, List.map Estimate_av some_⟩)], true⟩
def R_laws_FnOfStars_l2 (list : List Estimate) (stars : List (List UInt8)) (many : Int) (k : Int) (some_ : List Estimate) : (Unit ⊕ Bool) → Res
 | .inl y => (.exit 2, ⟨[.any, .any, .sl 5 (List.map Estimate_av list), .own 3200000, .any, .int .i64 many, .int .i64 k, .own 3200032, .any, .any, .any, .any], [], [(3200000, ⟨1, List.map AV.str stars⟩), (3200032, ⟨5, List.map Estimate_av some_⟩)], true⟩)
 | .inr y => (.ret, ⟨[.any, .bool y, .any, .any, .any, .any, .any, .any, .any, .any, .any, .any], [], [], true⟩)
set_option maxHeartbeats 8000000 in
theorem laws_FnOfStars_l2_ex {list : List Estimate} {stars : List (List UInt8)} {many : Int} {k : Int} {some_ : List Estimate} {sgm_ : Int} {rho_ : Unit ⊕ Bool} (h : whileE (laws_FnOfStars_l2 list stars many k some_) sgm_ = some rho_) : ∃ L0, ∀ L, L0 ≤ L → iter (exec (look t_laws_FnOfStars) L ir5_b1) ir5_k1 ir5_o1 ir5_r1 L (E_laws_FnOfStars_l2 list stars many k some_ sgm_) = R_laws_FnOfStars_l2 list stars many k some_ rho_ := by
 refine loop_ex (E := E_laws_FnOfStars_l2 list stars many k some_) (R := R_laws_FnOfStars_l2 list stars many k some_) (fun y => by first | (intro c; cases c) | (rcases y with y | y <;> (intro c; cases c)) | (rcases y with y | y | y <;> (intro c; cases c))) ?_ h
 clear h
 intro i o_ h
 dsimp only [laws_FnOfStars_l2] at h
 rcases it_some h with ⟨z13, h⟩ | ⟨z13, h⟩
 ·try simp only [go_sem, n1, n2, n3, n4] at z13
  all_goals
  obtain ⟨z14, h⟩ := ck_some h
  have lz14 := ix_lt z14
  have xz14 := getD_mapD Estimate_av some_ lz14
  try simp only [go_sem] at lz14
  try simp only [go_sem] at xz14
  try simp only [go_sem, n1, n2, n3, n4, z13] at z14
  all_goals
  obtain ⟨z15, h⟩ := ck_some h
  have lz15 := ix_lt z15
  have xz15 := getD_mapD AV.str stars lz15
  try simp only [go_sem] at lz15
  try simp only [go_sem] at xz15
  try simp only [go_sem, n1, n2, n3, n4, z13, z14] at z15
  all_goals
  rcases it_some h with ⟨z16, h⟩ | ⟨z16, h⟩
  ·try simp only [go_sem, n1, n2, n3, n4, z13, z14, z15] at z16
   all_goals
   obtain rfl := so_some h
   refine ⟨0, fun L hL => ?_⟩
   simp only [go_sem, ir5, E_laws_FnOfStars_l2, R_laws_FnOfStars_l2, ir5_b1, ir5_k1, ir5_o1, ir5_r1, z13, z14, lz14, xz14, z15, lz15, xz15, z16]
  ·try simp only [go_sem, n1, n2, n3, n4, z13, z14, z15] at z16
   all_goals
   obtain rfl := so_some h
   refine ⟨0, fun L hL => ?_⟩
   simp only [go_sem, ir5, E_laws_FnOfStars_l2, R_laws_FnOfStars_l2, ir5_b1, ir5_k1, ir5_o1, ir5_r1, z13, z14, lz14, xz14, z15, lz15, xz15, z16]
 ·try simp only [go_sem, n1, n2, n3, n4] at z13
  all_goals
  obtain rfl := so_some h
  refine ⟨0, fun L hL => ?_⟩
  simp only [go_sem, ir5, E_laws_FnOfStars_l2, R_laws_FnOfStars_l2, ir5_b1, ir5_k1, ir5_o1, ir5_r1, z13]

def E_laws_FnOfStars_l1 (list : List Estimate) (stars : List (List UInt8)) : (Int × Int) → St
 | (many, k) => ⟨[.any, .any, .sl 5 (List.map Estimate_av list), .own 3200000, .any, .int .i64 many, .int .i64 k, .any, .any, .any, .any, .any], [], [(3200000, ⟨1, List.map AV.str stars⟩)], true⟩
def R_laws_FnOfStars_l1 (list : List Estimate) (stars : List (List UInt8)) : (Int ⊕ Bool) → Res
 | .inl y => (.exit 0, ⟨[.any, .any, .sl 5 (List.map Estimate_av list), .any, .any, .int .i64 y, .any, .any, .any, .any, .any, .any], [], [], true⟩)
 | .inr y => (.ret, ⟨[.any, .bool y, .any, .any, .any, .any, .any, .any, .any, .any, .any, .any], [], [], true⟩)
set_option maxHeartbeats 8000000 in
theorem laws_FnOfStars_l1_ex {list : List Estimate} {stars : List (List UInt8)} {sgm_ : Int × Int} {rho_ : Int ⊕ Bool} (h : whileE (laws_FnOfStars_l1 list stars) sgm_ = some rho_) : ∃ L0, ∀ L, L0 ≤ L → iter (exec (look t_laws_FnOfStars) L ir5_b0) ir5_k0 ir5_o0 ir5_r0 L (E_laws_FnOfStars_l1 list stars sgm_) = R_laws_FnOfStars_l1 list stars rho_ := by
 refine loop_ex (E := E_laws_FnOfStars_l1 list stars) (R := R_laws_FnOfStars_l1 list stars) (fun y => by first | (intro c; cases c) | (rcases y with y | y <;> (intro c; cases c)) | (rcases y with y | y | y <;> (intro c; cases c))) ?_ h
 clear h
 rintro ⟨many, k⟩ o_ h
 dsimp only [laws_FnOfStars_l1] at h
 rcases it_some h with ⟨z6, h⟩ | ⟨z6, h⟩
 ·try simp only [go_sem, n1, n2, n3, n4] at z6
  all_goals
  obtain ⟨z7, h⟩ := ck_some h
  have lz7 := ix_lt z7
  have xz7 := getD_mapD AV.str stars lz7
  try simp only [go_sem] at lz7
  try simp only [go_sem] at xz7
  try simp only [go_sem, n1, n2, n3, n4, z6] at z7
  all_goals
  obtain ⟨y_8, z8, h⟩ := bd_some h
  have fz8 := Fs_32 z8
  try simp only [go_sem, z6, z7] at fz8
  obtain ⟨y_9, z9, h⟩ := bd_some h
  have fz9 := Fs_impl_LastOf z9
  try simp only [go_sem, z6, z7] at fz9
  obtain ⟨z10, h⟩ := ck_some h
  rcases or_split z10 with ⟨gz10, z10⟩ | gz10
  ·try simp only [go_sem, n1, n2, n3, n4, z6, z7] at gz10
   all_goals
   have lz10 := ix_lt z10
   have xz10 := getD_mapD Estimate_av y_8.1 lz10
   try simp only [go_sem] at lz10
   try simp only [go_sem] at xz10
   try simp only [go_sem, n1, n2, n3, n4, z6, z7, gz10] at z10
   all_goals
   obtain ⟨z11, h⟩ := ck_some h
   rcases or_split z11 with ⟨gz11, z11⟩ | gz11
   ·try simp only [go_sem, n1, n2, n3, n4, z6, z7, gz10, z10] at gz11
    all_goals
    have lz11 := ix_lt z11
    have xz11 := getD_mapD AV.str stars lz11
    try simp only [go_sem] at lz11
    try simp only [go_sem] at xz11
    try simp only [go_sem, n1, n2, n3, n4, z6, z7, gz10, z10, gz11] at z11
    all_goals
    rcases it_some h with ⟨z12, h⟩ | ⟨z12, h⟩
    ·try simp only [go_sem, n1, n2, n3, n4, z6, z7, gz10, z10, gz11, z11] at z12
     all_goals
     obtain rfl := so_some h
     refine ⟨0, fun L hL => ?_⟩
     simp only [go_sem, ir5, E_laws_FnOfStars_l1, R_laws_FnOfStars_l1, ir5_b0, ir5_k0, ir5_o0, ir5_r0, E_laws_FnOfStars_l2, R_laws_FnOfStars_l2, ir5_k1, ir5_o1, ir5_r1, z6, z7, lz7, xz7, fz8, fz9, gz10, z10, lz10, xz10, gz11, z11, lz11, xz11, z12]
    ·try simp only [go_sem, n1, n2, n3, n4, z6, z7, gz10, z10, gz11, z11] at z12
     all_goals
     obtain ⟨y_17, z17, h⟩ := bd_some h
     obtain ⟨Lz17, ez17⟩ := laws_FnOfStars_l2_ex z17
     rcases y_17 with y_17a | y_17b
     ·dsimp only at h
      obtain rfl := so_some h
      refine ⟨Lz17, fun L hL => ?_⟩
      have ez17 := ez17 L (by omega)
      try simp only [go_sem, E_laws_FnOfStars_l1, R_laws_FnOfStars_l1, ir5_b0, ir5_k0, ir5_o0, ir5_r0, E_laws_FnOfStars_l2, R_laws_FnOfStars_l2, ir5_k1, ir5_o1, ir5_r1, z6, z7, gz10, z10, gz11, z11, z12] at ez17
      simp only [go_sem, ir5, E_laws_FnOfStars_l1, R_laws_FnOfStars_l1, ir5_b0, ir5_k0, ir5_o0, ir5_r0, E_laws_FnOfStars_l2, R_laws_FnOfStars_l2, ir5_k1, ir5_o1, ir5_r1, z6, z7, lz7, xz7, fz8, fz9, gz10, z10, lz10, xz10, gz11, z11, lz11, xz11, z12, ez17]
     ·dsimp only at h
      obtain rfl := so_some h
      refine ⟨Lz17, fun L hL => ?_⟩
      have ez17 := ez17 L (by omega)
      try simp only [go_sem, E_laws_FnOfStars_l1, R_laws_FnOfStars_l1, ir5_b0, ir5_k0, ir5_o0, ir5_r0, E_laws_FnOfStars_l2, R_laws_FnOfStars_l2, ir5_k1, ir5_o1, ir5_r1, z6, z7, gz10, z10, gz11, z11, z12] at ez17
      simp only [go_sem, ir5, E_laws_FnOfStars_l1, R_laws_FnOfStars_l1, ir5_b0, ir5_k0, ir5_o0, ir5_r0, E_laws_FnOfStars_l2, R_laws_FnOfStars_l2, ir5_k1, ir5_o1, ir5_r1, z6, z7, lz7, xz7, fz8, fz9, gz10, z10, lz10, xz10, gz11, z11, lz11, xz11, z12, ez17]
   ·rcases and_f gz11 with gz11a | ⟨gz11a, gz11b⟩
    ·have gz11an := no_f gz11a
     rcases or_t gz11an with gz11ana | ⟨gz11ana, gz11anb⟩
     ·try simp only [go_sem, n1, n2, n3, n4, z6, z7, gz10, z10] at gz11ana
      all_goals
      (simp_all)
     ·obtain ⟨gz11anaa, gz11anab⟩ := or_f gz11ana
      obtain ⟨gz11anaaa, gz11anaab⟩ := or_f gz11anaa
      have gz11anaaan := no_f gz11anaaa
      have gz11anaabn := no_f gz11anaab
      have gz11anbn := no_t gz11anb
      rcases and_f gz11anbn with gz11anbna | ⟨gz11anbna, gz11anbnb⟩
      ·try simp only [go_sem, n1, n2, n3, n4, z6, z7, gz10, z10] at gz11anaaan
       all_goals
       try simp only [go_sem, n1, n2, n3, n4, z6, z7, gz10, z10, gz11anaaan] at gz11anaabn
       all_goals
       try simp only [go_sem, n1, n2, n3, n4, z6, z7, gz10, z10, gz11anaaan, gz11anaabn] at gz11anab
       all_goals
       try simp only [go_sem, n1, n2, n3, n4, z6, z7, gz10, z10, gz11anaaan, gz11anaabn, gz11anab] at gz11anbna
       all_goals
       rcases it_some h with ⟨z12, h⟩ | ⟨z12, h⟩
       ·try simp only [go_sem, n1, n2, n3, n4, z6, z7, gz10, z10, gz11anaaan, gz11anaabn, gz11anab, gz11anbna] at z12
        all_goals
        obtain rfl := so_some h
        refine ⟨0, fun L hL => ?_⟩
        simp only [go_sem, ir5, E_laws_FnOfStars_l1, R_laws_FnOfStars_l1, ir5_b0, ir5_k0, ir5_o0, ir5_r0, E_laws_FnOfStars_l2, R_laws_FnOfStars_l2, ir5_k1, ir5_o1, ir5_r1, z6, z7, lz7, xz7, fz8, fz9, gz10, z10, lz10, xz10, gz11anaaan, gz11anaabn, gz11anab, gz11anbna, z12]
       ·try simp only [go_sem, n1, n2, n3, n4, z6, z7, gz10, z10, gz11anaaan, gz11anaabn, gz11anab, gz11anbna] at z12
        all_goals
        (simp_all)
      ·rcases and_f gz11anbnb with gz11anbnba | ⟨gz11anbnba, gz11anbnbb⟩
       ·try simp only [go_sem, n1, n2, n3, n4, z6, z7, gz10, z10] at gz11anaaan
        all_goals
        try simp only [go_sem, n1, n2, n3, n4, z6, z7, gz10, z10, gz11anaaan] at gz11anaabn
        all_goals
        try simp only [go_sem, n1, n2, n3, n4, z6, z7, gz10, z10, gz11anaaan, gz11anaabn] at gz11anab
        all_goals
        try simp only [go_sem, n1, n2, n3, n4, z6, z7, gz10, z10, gz11anaaan, gz11anaabn, gz11anab] at gz11anbna
        all_goals
        try simp only [go_sem, n1, n2, n3, n4, z6, z7, gz10, z10, gz11anaaan, gz11anaabn, gz11anab, gz11anbna] at gz11anbnba
        all_goals
        rcases it_some h with ⟨z12, h⟩ | ⟨z12, h⟩
        ·try simp only [go_sem, n1, n2, n3, n4, z6, z7, gz10, z10, gz11anaaan, gz11anaabn, gz11anab, gz11anbna, gz11anbnba] at z12
         all_goals
         obtain rfl := so_some h
         refine ⟨0, fun L hL => ?_⟩
         simp only [go_sem, ir5, E_laws_FnOfStars_l1, R_laws_FnOfStars_l1, ir5_b0, ir5_k0, ir5_o0, ir5_r0, E_laws_FnOfStars_l2, R_laws_FnOfStars_l2, ir5_k1, ir5_o1, ir5_r1, z6, z7, lz7, xz7, fz8, fz9, gz10, z10, lz10, xz10, gz11anaaan, gz11anaabn, gz11anab, gz11anbna, gz11anbnba, z12]
        ·try simp only [go_sem, n1, n2, n3, n4, z6, z7, gz10, z10, gz11anaaan, gz11anaabn, gz11anab, gz11anbna, gz11anbnba] at z12
         all_goals
         (simp_all)
       ·rcases and_f gz11anbnbb with gz11anbnbba | ⟨gz11anbnbba, gz11anbnbbb⟩
        ·try simp only [go_sem, n1, n2, n3, n4, z6, z7, gz10, z10] at gz11anaaan
         all_goals
         try simp only [go_sem, n1, n2, n3, n4, z6, z7, gz10, z10, gz11anaaan] at gz11anaabn
         all_goals
         try simp only [go_sem, n1, n2, n3, n4, z6, z7, gz10, z10, gz11anaaan, gz11anaabn] at gz11anab
         all_goals
         try simp only [go_sem, n1, n2, n3, n4, z6, z7, gz10, z10, gz11anaaan, gz11anaabn, gz11anab] at gz11anbna
         all_goals
         try simp only [go_sem, n1, n2, n3, n4, z6, z7, gz10, z10, gz11anaaan, gz11anaabn, gz11anab, gz11anbna] at gz11anbnba
         all_goals
         try simp only [go_sem, n1, n2, n3, n4, z6, z7, gz10, z10, gz11anaaan, gz11anaabn, gz11anab, gz11anbna, gz11anbnba] at gz11anbnbba
         all_goals
         rcases it_some h with ⟨z12, h⟩ | ⟨z12, h⟩
         ·try simp only [go_sem, n1, n2, n3, n4, z6, z7, gz10, z10, gz11anaaan, gz11anaabn, gz11anab, gz11anbna, gz11anbnba, gz11anbnbba] at z12
          all_goals
          obtain rfl := so_some h
          refine ⟨0, fun L hL => ?_⟩
          simp only [go_sem, ir5, E_laws_FnOfStars_l1, R_laws_FnOfStars_l1, ir5_b0, ir5_k0, ir5_o0, ir5_r0, E_laws_FnOfStars_l2, R_laws_FnOfStars_l2, ir5_k1, ir5_o1, ir5_r1, z6, z7, lz7, xz7, fz8, fz9, gz10, z10, lz10, xz10, gz11anaaan, gz11anaabn, gz11anab, gz11anbna, gz11anbnba, gz11anbnbba, z12]
         ·try simp only [go_sem, n1, n2, n3, n4, z6, z7, gz10, z10, gz11anaaan, gz11anaabn, gz11anab, gz11anbna, gz11anbnba, gz11anbnbba] at z12
          all_goals
          (simp_all)
        ·rcases and_f gz11anbnbbb with gz11anbnbbba | ⟨gz11anbnbbba, gz11anbnbbbb⟩
         ·try simp only [go_sem, n1, n2, n3, n4, z6, z7, gz10, z10] at gz11anaaan
          all_goals
          try simp only [go_sem, n1, n2, n3, n4, z6, z7, gz10, z10, gz11anaaan] at gz11anaabn
          all_goals
          try simp only [go_sem, n1, n2, n3, n4, z6, z7, gz10, z10, gz11anaaan, gz11anaabn] at gz11anab
          all_goals
          try simp only [go_sem, n1, n2, n3, n4, z6, z7, gz10, z10, gz11anaaan, gz11anaabn, gz11anab] at gz11anbna
          all_goals
          try simp only [go_sem, n1, n2, n3, n4, z6, z7, gz10, z10, gz11anaaan, gz11anaabn, gz11anab, gz11anbna] at gz11anbnba
          all_goals
          try simp only [go_sem, n1, n2, n3, n4, z6, z7, gz10, z10, gz11anaaan, gz11anaabn, gz11anab, gz11anbna, gz11anbnba] at gz11anbnbba
          all_goals
          try simp only [go_sem, n1, n2, n3, n4, z6, z7, gz10, z10, gz11anaaan, gz11anaabn, gz11anab, gz11anbna, gz11anbnba, gz11anbnbba] at gz11anbnbbba
          all_goals
          rcases it_some h with ⟨z12, h⟩ | ⟨z12, h⟩
          ·try simp only [go_sem, n1, n2, n3, n4, z6, z7, gz10, z10, gz11anaaan, gz11anaabn, gz11anab, gz11anbna, gz11anbnba, gz11anbnbba, gz11anbnbbba] at z12
           all_goals
           obtain rfl := so_some h
           refine ⟨0, fun L hL => ?_⟩
           simp only [go_sem, ir5, E_laws_FnOfStars_l1, R_laws_FnOfStars_l1, ir5_b0, ir5_k0, ir5_o0, ir5_r0, E_laws_FnOfStars_l2, R_laws_FnOfStars_l2, ir5_k1, ir5_o1, ir5_r1, z6, z7, lz7, xz7, fz8, fz9, gz10, z10, lz10, xz10, gz11anaaan, gz11anaabn, gz11anab, gz11anbna, gz11anbnba, gz11anbnbba, gz11anbnbbba, z12]
          ·try simp only [go_sem, n1, n2, n3, n4, z6, z7, gz10, z10, gz11anaaan, gz11anaabn, gz11anab, gz11anbna, gz11anbnba, gz11anbnbba, gz11anbnbbba] at z12
           all_goals
           (simp_all)
         ·try simp only [go_sem, n1, n2, n3, n4, z6, z7, gz10, z10] at gz11anaaan
          all_goals
          try simp only [go_sem, n1, n2, n3, n4, z6, z7, gz10, z10, gz11anaaan] at gz11anaabn
          all_goals
          try simp only [go_sem, n1, n2, n3, n4, z6, z7, gz10, z10, gz11anaaan, gz11anaabn] at gz11anab
          all_goals
          try simp only [go_sem, n1, n2, n3, n4, z6, z7, gz10, z10, gz11anaaan, gz11anaabn, gz11anab] at gz11anbna
          all_goals
          try simp only [go_sem, n1, n2, n3, n4, z6, z7, gz10, z10, gz11anaaan, gz11anaabn, gz11anab, gz11anbna] at gz11anbnba
          all_goals
          try simp only [go_sem, n1, n2, n3, n4, z6, z7, gz10, z10, gz11anaaan, gz11anaabn, gz11anab, gz11anbna, gz11anbnba] at gz11anbnbba
          all_goals
          try simp only [go_sem, n1, n2, n3, n4, z6, z7, gz10, z10, gz11anaaan, gz11anaabn, gz11anab, gz11anbna, gz11anbnba, gz11anbnbba] at gz11anbnbbba
          all_goals
          try simp only [go_sem, n1, n2, n3, n4, z6, z7, gz10, z10, gz11anaaan, gz11anaabn, gz11anab, gz11anbna, gz11anbnba, gz11anbnbba, gz11anbnbbba] at gz11anbnbbbb
          all_goals
          rcases it_some h with ⟨z12, h⟩ | ⟨z12, h⟩
          ·try simp only [go_sem, n1, n2, n3, n4, z6, z7, gz10, z10, gz11anaaan, gz11anaabn, gz11anab, gz11anbna, gz11anbnba, gz11anbnbba, gz11anbnbbba, gz11anbnbbbb] at z12
           all_goals
           obtain rfl := so_some h
           refine ⟨0, fun L hL => ?_⟩
           simp only [go_sem, ir5, E_laws_FnOfStars_l1, R_laws_FnOfStars_l1, ir5_b0, ir5_k0, ir5_o0, ir5_r0, E_laws_FnOfStars_l2, R_laws_FnOfStars_l2, ir5_k1, ir5_o1, ir5_r1, z6, z7, lz7, xz7, fz8, fz9, gz10, z10, lz10, xz10, gz11anaaan, gz11anaabn, gz11anab, gz11anbna, gz11anbnba, gz11anbnbba, gz11anbnbbba, gz11anbnbbbb, z12]
          ·try simp only [go_sem, n1, n2, n3, n4, z6, z7, gz10, z10, gz11anaaan, gz11anaabn, gz11anab, gz11anbna, gz11anbnba, gz11anbnbba, gz11anbnbbba, gz11anbnbbbb] at z12
           all_goals
           (simp_all)
    ·have gz11an := no_t gz11a
     obtain ⟨gz11ana, gz11anb⟩ := or_f gz11an
     obtain ⟨gz11anaa, gz11anab⟩ := or_f gz11ana
     obtain ⟨gz11anaaa, gz11anaab⟩ := or_f gz11anaa
     have gz11anaaan := no_f gz11anaaa
     have gz11anaabn := no_f gz11anaab
     have gz11anbn := no_f gz11anb
     obtain ⟨gz11anbna, gz11anbnb⟩ := and_t gz11anbn
     obtain ⟨gz11anbnba, gz11anbnbb⟩ := and_t gz11anbnb
     obtain ⟨gz11anbnbba, gz11anbnbbb⟩ := and_t gz11anbnbb
     obtain ⟨gz11anbnbbba, gz11anbnbbbb⟩ := and_t gz11anbnbbb
     try simp only [go_sem, n1, n2, n3, n4, z6, z7, gz10, z10] at gz11anaaan
     all_goals
     try simp only [go_sem, n1, n2, n3, n4, z6, z7, gz10, z10, gz11anaaan] at gz11anaabn
     all_goals
     try simp only [go_sem, n1, n2, n3, n4, z6, z7, gz10, z10, gz11anaaan, gz11anaabn] at gz11anab
     all_goals
     try simp only [go_sem, n1, n2, n3, n4, z6, z7, gz10, z10, gz11anaaan, gz11anaabn, gz11anab] at gz11anbna
     all_goals
     try simp only [go_sem, n1, n2, n3, n4, z6, z7, gz10, z10, gz11anaaan, gz11anaabn, gz11anab, gz11anbna] at gz11anbnba
     all_goals
     try simp only [go_sem, n1, n2, n3, n4, z6, z7, gz10, z10, gz11anaaan, gz11anaabn, gz11anab, gz11anbna, gz11anbnba] at gz11anbnbba
     all_goals
     try simp only [go_sem, n1, n2, n3, n4, z6, z7, gz10, z10, gz11anaaan, gz11anaabn, gz11anab, gz11anbna, gz11anbnba, gz11anbnbba] at gz11anbnbbba
     all_goals
     try simp only [go_sem, n1, n2, n3, n4, z6, z7, gz10, z10, gz11anaaan, gz11anaabn, gz11anab, gz11anbna, gz11anbnba, gz11anbnbba, gz11anbnbbba] at gz11anbnbbbb
     all_goals
     try simp only [go_sem, n1, n2, n3, n4, z6, z7, gz10, z10, gz11anaaan, gz11anaabn, gz11anab, gz11anbna, gz11anbnba, gz11anbnbba, gz11anbnbbba, gz11anbnbbbb] at gz11b
     all_goals
     rcases it_some h with ⟨z12, h⟩ | ⟨z12, h⟩
     ·try simp only [go_sem, n1, n2, n3, n4, z6, z7, gz10, z10, gz11anaaan, gz11anaabn, gz11anab, gz11anbna, gz11anbnba, gz11anbnbba, gz11anbnbbba, gz11anbnbbbb, gz11b] at z12
      all_goals
      (simp_all)
     ·try simp only [go_sem, n1, n2, n3, n4, z6, z7, gz10, z10, gz11anaaan, gz11anaabn, gz11anab, gz11anbna, gz11anbnba, gz11anbnbba, gz11anbnbbba, gz11anbnbbbb, gz11b] at z12
      all_goals
      obtain ⟨y_17, z17, h⟩ := bd_some h
      obtain ⟨Lz17, ez17⟩ := laws_FnOfStars_l2_ex z17
      rcases y_17 with y_17a | y_17b
      ·dsimp only at h
       obtain rfl := so_some h
       refine ⟨Lz17, fun L hL => ?_⟩
       have ez17 := ez17 L (by omega)
       try simp only [go_sem, E_laws_FnOfStars_l1, R_laws_FnOfStars_l1, ir5_b0, ir5_k0, ir5_o0, ir5_r0, E_laws_FnOfStars_l2, R_laws_FnOfStars_l2, ir5_k1, ir5_o1, ir5_r1, z6, z7, gz10, z10, gz11anaaan, gz11anaabn, gz11anab, gz11anbna, gz11anbnba, gz11anbnbba, gz11anbnbbba, gz11anbnbbbb, gz11b, z12] at ez17
       simp only [go_sem, ir5, E_laws_FnOfStars_l1, R_laws_FnOfStars_l1, ir5_b0, ir5_k0, ir5_o0, ir5_r0, E_laws_FnOfStars_l2, R_laws_FnOfStars_l2, ir5_k1, ir5_o1, ir5_r1, z6, z7, lz7, xz7, fz8, fz9, gz10, z10, lz10, xz10, gz11anaaan, gz11anaabn, gz11anab, gz11anbna, gz11anbnba, gz11anbnbba, gz11anbnbbba, gz11anbnbbbb, gz11b, z12, ez17]
      ·dsimp only at h
       obtain rfl := so_some h
       refine ⟨Lz17, fun L hL => ?_⟩
       have ez17 := ez17 L (by omega)
       try simp only [go_sem, E_laws_FnOfStars_l1, R_laws_FnOfStars_l1, ir5_b0, ir5_k0, ir5_o0, ir5_r0, E_laws_FnOfStars_l2, R_laws_FnOfStars_l2, ir5_k1, ir5_o1, ir5_r1, z6, z7, gz10, z10, gz11anaaan, gz11anaabn, gz11anab, gz11anbna, gz11anbnba, gz11anbnbba, gz11anbnbbba, gz11anbnbbbb, gz11b, z12] at ez17
       simp only [go_sem, ir5, E_laws_FnOfStars_l1, R_laws_FnOfStars_l1, ir5_b0, ir5_k0, ir5_o0, ir5_r0, E_laws_FnOfStars_l2, R_laws_FnOfStars_l2, ir5_k1, ir5_o1, ir5_r1, z6, z7, lz7, xz7, fz8, fz9, gz10, z10, lz10, xz10, gz11anaaan, gz11anaabn, gz11anab, gz11anbna, gz11anbnba, gz11anbnbba, gz11anbnbbba, gz11anbnbbbb, gz11b, z12, ez17]
  ·have gz10n := no_f gz10
   rcases or_t gz10n with gz10na | ⟨gz10na, gz10nb⟩
   ·rcases or_t gz10na with gz10naa | ⟨gz10naa, gz10nab⟩
    ·have gz10naan := no_t gz10naa
     try simp only [go_sem, n1, n2, n3, n4, z6, z7] at gz10naan
     all_goals
     obtain ⟨z11, h⟩ := ck_some h
     rcases it_some h with ⟨z12, h⟩ | ⟨z12, h⟩
     ·try simp only [go_sem, n1, n2, n3, n4, z6, z7, gz10naan] at z12
      all_goals
      obtain rfl := so_some h
      refine ⟨0, fun L hL => ?_⟩
      simp only [go_sem, ir5, E_laws_FnOfStars_l1, R_laws_FnOfStars_l1, ir5_b0, ir5_k0, ir5_o0, ir5_r0, E_laws_FnOfStars_l2, R_laws_FnOfStars_l2, ir5_k1, ir5_o1, ir5_r1, z6, z7, lz7, xz7, fz8, fz9, gz10naan, z12]
     ·try simp only [go_sem, n1, n2, n3, n4, z6, z7, gz10naan] at z12
      all_goals
      (simp_all)
    ·have gz10naan := no_f gz10naa
     have gz10nabn := no_t gz10nab
     try simp only [go_sem, n1, n2, n3, n4, z6, z7] at gz10naan
     all_goals
     try simp only [go_sem, n1, n2, n3, n4, z6, z7, gz10naan] at gz10nabn
     all_goals
     obtain ⟨z11, h⟩ := ck_some h
     rcases it_some h with ⟨z12, h⟩ | ⟨z12, h⟩
     ·try simp only [go_sem, n1, n2, n3, n4, z6, z7, gz10naan, gz10nabn] at z12
      all_goals
      obtain rfl := so_some h
      refine ⟨0, fun L hL => ?_⟩
      simp only [go_sem, ir5, E_laws_FnOfStars_l1, R_laws_FnOfStars_l1, ir5_b0, ir5_k0, ir5_o0, ir5_r0, E_laws_FnOfStars_l2, R_laws_FnOfStars_l2, ir5_k1, ir5_o1, ir5_r1, z6, z7, lz7, xz7, fz8, fz9, gz10naan, gz10nabn, z12]
     ·try simp only [go_sem, n1, n2, n3, n4, z6, z7, gz10naan, gz10nabn] at z12
      all_goals
      (simp_all)
   ·obtain ⟨gz10naa, gz10nab⟩ := or_f gz10na
    have gz10naan := no_f gz10naa
    have gz10nabn := no_f gz10nab
    try simp only [go_sem, n1, n2, n3, n4, z6, z7] at gz10naan
    all_goals
    try simp only [go_sem, n1, n2, n3, n4, z6, z7, gz10naan] at gz10nabn
    all_goals
    try simp only [go_sem, n1, n2, n3, n4, z6, z7, gz10naan, gz10nabn] at gz10nb
    all_goals
    obtain ⟨z11, h⟩ := ck_some h
    rcases it_some h with ⟨z12, h⟩ | ⟨z12, h⟩
    ·try simp only [go_sem, n1, n2, n3, n4, z6, z7, gz10naan, gz10nabn, gz10nb] at z12
     all_goals
     obtain rfl := so_some h
     refine ⟨0, fun L hL => ?_⟩
     simp only [go_sem, ir5, E_laws_FnOfStars_l1, R_laws_FnOfStars_l1, ir5_b0, ir5_k0, ir5_o0, ir5_r0, E_laws_FnOfStars_l2, R_laws_FnOfStars_l2, ir5_k1, ir5_o1, ir5_r1, z6, z7, lz7, xz7, fz8, fz9, gz10naan, gz10nabn, gz10nb, z12]
    ·try simp only [go_sem, n1, n2, n3, n4, z6, z7, gz10naan, gz10nabn, gz10nb] at z12
     all_goals
     (simp_all)
 ·try simp only [go_sem, n1, n2, n3, n4] at z6
  all_goals
  obtain rfl := so_some h
  refine ⟨0, fun L hL => ?_⟩
  simp only [go_sem, ir5, E_laws_FnOfStars_l1, R_laws_FnOfStars_l1, ir5_b0, ir5_k0, ir5_o0, ir5_r0, E_laws_FnOfStars_l2, R_laws_FnOfStars_l2, ir5_k1, ir5_o1, ir5_r1, z6]

set_option maxHeartbeats 8000000 in
theorem Fs_laws_FnOfStars {code : List UInt8} {y_ : Bool} (h : laws_FnOfStars code = some y_) : c_laws_FnOfStars.F [.sl 1 (List.map byteAV code)] = ⟨true, .bool y_, [.any]⟩ := by
 refine mkF_E rfl ?_
 dsimp only [laws_FnOfStars] at h
 obtain ⟨y_1, z1, h⟩ := bd_some h
 have fz1 := Fs_0 z1
 try simp only [go_sem] at fz1
 rcases it_some h with ⟨z2, h⟩ | ⟨z2, h⟩
 ·try simp only [go_sem, n1, n2, n3, n4] at z2
  all_goals
  obtain rfl := so_some h
  refine ⟨0, fun L hL => ?_⟩
  simp only [go_sem, ir5, E_laws_FnOfStars_l2, R_laws_FnOfStars_l2, ir5_k1, ir5_o1, ir5_r1, E_laws_FnOfStars_l1, R_laws_FnOfStars_l1, ir5_k0, ir5_o0, ir5_r0, fz1, z2]
 ·try simp only [go_sem, n1, n2, n3, n4] at z2
  all_goals
  obtain ⟨y_3, z3, h⟩ := bd_some h
  have fz3 := Fs_11 z3
  try simp only [go_sem, z2] at fz3
  obtain ⟨y_4, z4, h⟩ := bd_some h
  have fz4 := Fs_29 z4
  try simp only [go_sem, z2] at fz4
  rcases it_some h with ⟨z5, h⟩ | ⟨z5, h⟩
  ·try simp only [go_sem, n1, n2, n3, n4, z2] at z5
   all_goals
   obtain rfl := so_some h
   refine ⟨0, fun L hL => ?_⟩
   simp only [go_sem, ir5, E_laws_FnOfStars_l2, R_laws_FnOfStars_l2, ir5_k1, ir5_o1, ir5_r1, E_laws_FnOfStars_l1, R_laws_FnOfStars_l1, ir5_k0, ir5_o0, ir5_r0, fz1, z2, fz3, fz4, z5]
  ·try simp only [go_sem, n1, n2, n3, n4, z2] at z5
   all_goals
   obtain ⟨y_18, z18, h⟩ := bd_some h
   obtain ⟨Lz18, ez18⟩ := laws_FnOfStars_l1_ex z18
   rcases y_18 with y_18a | y_18b
   ·dsimp only at h
    obtain rfl := so_some h
    refine ⟨Lz18, fun L hL => ?_⟩
    have ez18 := ez18 L (by omega)
    try simp only [go_sem, E_laws_FnOfStars_l2, R_laws_FnOfStars_l2, ir5_k1, ir5_o1, ir5_r1, E_laws_FnOfStars_l1, R_laws_FnOfStars_l1, ir5_k0, ir5_o0, ir5_r0, z2, z5] at ez18
    simp only [go_sem, ir5, E_laws_FnOfStars_l2, R_laws_FnOfStars_l2, ir5_k1, ir5_o1, ir5_r1, E_laws_FnOfStars_l1, R_laws_FnOfStars_l1, ir5_k0, ir5_o0, ir5_r0, fz1, z2, fz3, fz4, z5, ez18]
   ·dsimp only at h
    obtain rfl := so_some h
    refine ⟨Lz18, fun L hL => ?_⟩
    have ez18 := ez18 L (by omega)
    try simp only [go_sem, E_laws_FnOfStars_l2, R_laws_FnOfStars_l2, ir5_k1, ir5_o1, ir5_r1, E_laws_FnOfStars_l1, R_laws_FnOfStars_l1, ir5_k0, ir5_o0, ir5_r0, z2, z5] at ez18
    simp only [go_sem, ir5, E_laws_FnOfStars_l2, R_laws_FnOfStars_l2, ir5_k1, ir5_o1, ir5_r1, E_laws_FnOfStars_l1, R_laws_FnOfStars_l1, ir5_k0, ir5_o0, ir5_r0, fz1, z2, fz3, fz4, z5, ez18]


end Go.Proofs.Ytikaacjlnkfebaa
