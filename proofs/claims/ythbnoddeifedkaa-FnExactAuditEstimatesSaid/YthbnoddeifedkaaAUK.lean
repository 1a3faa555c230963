/- Codes and contracts of the functions that AU reaches, and that their typed forms say what they do. No condition. -/
import Derived.Test.YthbnoddeifedkaaEngKinds
import Derived.Test.YthbnoddeifedkaaRows
import Derived.WalkKit
namespace Go.Proofs.Ythbnoddeifedkaa
open Go Go.RowKit
set_option linter.unusedVariables false
set_option linter.unusedSimpArgs false
set_option maxRecDepth 10000

def ir11_b1 : IR := .seq (.region false [ VO 15 46 (.bin false .lss (.v 14) (.v 13))]) (.seq (.cond (.v 15) (.skip) (.exit 3)) (.seq (.block 4 (.seq (.region false [ PO 47 (.ixAddr 1 (.v 12) (.v 14)), PO 48 (.load false 1 (.s 0)), VS 8 13 0]) (.region false [ PM 49 6, PM 50 7, PM 51 8, PO 52 (.build [.int .i64 (0), .int .i64 (0)] [(0, 1, (.s 1)), (1, 1, (.s 0))]), PO 53 (.mkSl 2 (.agg [.int .i64 (0), .int .i64 (0)]) 1 [(0, (.s 0))]), PO 54 (.app 2 16 (.agg [.int .i64 (0), .int .i64 (0)]) (.s 4) (.s 0)), VS 6 10 0]))) (.region false [ PO 55 (.bin false .add (.v 14) (I6 1)), VS 14 45 0])))
def ir11_k1 : List Bool := [true, true, true, true, false, false, true, true, false, true, true, false, true, true, true, false]
def ir11_o1 : List Bool := [true, true, true, true, false, false, true, false, false, true, true, false, false, false, false, false]
def ir11_r1 : List Bool := [false, false, false, false, true, true, false, false, false, false, false, false, false, false, false, false]
def ir11_b0 : IR := .seq (.region false [ VO 11 36 (.bin false .lss (.v 10) (.v 9))]) (.seq (.cond (.v 11) (.skip) (.exit 1)) (.seq (.block 2 (.seq (.region false [ PM 37 10, VS 7 11 0]) (.seq (.region false [ PM 38 0, PM 39 7, PM 40 1, PM 41 2, PM 42 3, VO 12 43 (.call 36 [(.s 4), (.s 3), (.s 2), (.s 1), (.s 0)]), VO 13 44 (.len false (.v 12)), VO 14 45 (.mov (I6 0))]) (.block 3 (.loop ir11_k1 ir11_o1 ir11_r1 ir11_b1))))) (.region false [ PO 56 (.bin false .add (.v 10) (I6 1)), VS 10 35 0])))
def ir11_k0 : List Bool := [true, true, true, true, false, false, true, false, false, true, true, false, false, false, false, false]
def ir11_o0 : List Bool := [false, false, false, false, false, false, true, false, false, false, false, false, false, false, false, false]
def ir11_r0 : List Bool := [false, false, false, false, true, true, false, false, false, false, false, false, false, false, false, false]
def ir11_v : List Nat := [0, 1, 2, 3, 8, 9, 10, 11, 13, 34, 35, 36, 43, 44, 45, 46]
def ir11 : AFn := ⟨4, 16, .seq (.region false [ VO 4 8 (.newnil 2), VO 5 9 (.mov (I6 0))]) (.seq (.block 0 (.test false [ PM 15 0, PO 16 (.call 32 [(.s 0)]), PO 17 (.un .not (.s 0)), PO 18 (.mov (.s 0)), ⟨.push, 19, (some ((.s 0), false)), .mov (.v 1)⟩, ⟨.push, 20, (some ((.s 1), false)), .call 33 [(.s 0)]⟩, ⟨.push, 21, (some ((.s 2), false)), .un .not (.s 0)⟩, PO 22 (.pick (.s 3) (.c (.bool true)) (.s 0)), PO 23 (.mov (.s 0)), ⟨.push, 24, (some ((.s 0), false)), .mov (.v 2)⟩, ⟨.push, 25, (some ((.s 1), false)), .call 34 [(.s 0)]⟩, ⟨.push, 26, (some ((.s 2), false)), .un .not (.s 0)⟩, PO 27
 (.pick (.s 3) (.c (.bool true)) (.s 0)), PO 14 (.mov (.s 0))] (.s 0) (.seq (.region false [ VO 4 8 (.newnil 2), VO 5 9 (.mov (I6 1))]) (.ret)) (.test false [ PM 29 3, PO 30 (.call 35 [(.s 0), (I6 0), (I6 20000)]), PO 31 (.un .not (.s 0)), PO 28 (.mov (.s 0))] (.s 0) (.seq (.region false [ VO 4 8 (.newnil 2), VO 5 9 (.mov (I6 2))]) (.ret)) (.skip)))) (.seq (.region false [ PO 32 (.mkSl 2 (.agg [.int .i64 (0), .int .i64 (0)]) 0 []), VS 6 10 0]) (.seq (.seq (.region false [ PM 33 0, VO 9 34 (.len false (.s 0)), VO 10 35 (.mov (I6 0))]) (.block 1 (.loop ir11_k0 ir11_o0 ir11_r0 ir11_b0))) (.seq
 (.region false [ PM 57 6, VS 4 8 0, VO 5 9 (.mov (I6 0))]) (.ret))))), [.t 4, .t 5]⟩
noncomputable def t_63 : List (Nat × Ctr) := [(32, c_43), (33, c_47), (34, c_51), (35, c_31), (36, c_impl_kindsOf)]
theorem lk_63_32 : look t_63 32 = some c_43 := rfl
theorem lk_63_33 : look t_63 33 = some c_47 := rfl
theorem lk_63_34 : look t_63 34 = some c_51 := rfl
theorem lk_63_35 : look t_63 35 = some c_31 := rfl
theorem lk_63_36 : look t_63 36 = some c_impl_kindsOf := rfl
noncomputable def c_63 : Ctr := mkF t_63 ir11 [.bor, .bor, .bor, .bor]
theorem s_63 : Sound Try.prog 11 c_63 := mkF_sound _ rfl (snd_cons s_43 (snd_cons s_47 (snd_cons s_51 (snd_cons s_31 (snd_cons s_impl_kindsOf snd_nil))))) (by kernel_rfl : chkFn Try.prog 11 ir11 ir11_v = true)
theorem M_63 : c_63.modes = [.bor, .bor, .bor, .bor] := rfl
theorem Fl_63 : c_63.flat = true := rfl
attribute [go_sem] M_63 Fl_63
attribute [go_sem] lk_63_32 lk_63_33 lk_63_34 lk_63_35 lk_63_36
def E_63_l2 (list : List Estimate) (stars : List Star) (observers : List Observer) (margin : Int) (i : Int) (t34 : Int) (t35 : Int) (t43 : List Int) (t44 : Int) : ((List Fault) × Int) → St
 | (out, t45) => ⟨[.sl 5 (List.map Estimate_av list), .sl 5 (List.map Star_av stars), .sl 2 (List.map Observer_av observers), .int .i64 margin, .any, .any, .own 3200000, .int .i64 i, .any, .int .i64 t34, .int .i64 t35, .any, .own 3200032, .int .i64 t44, .int .i64 t45, .any], [], [(3200000, ⟨2, List.map Fault_av out⟩), (3200032, ⟨1, List.map (AV.int .i64) t43⟩)], true⟩
def R_63_l2 (list : List Estimate) (stars : List Star) (observers : List Observer) (margin : Int) (i : Int) (t34 : Int) (t35 : Int) (t43 : List Int) (t44 : Int) (y : (List Fault)) : Res := (.exit 3, ⟨[.sl 5 (List.map Estimate_av list), .sl 5 (List.map Star_av stars), .sl 2 (List.map Observer_av observers), .int .i64 margin, .any, .any, .own 3200000, .any, .any, .int .i64 t34, .int .i64 t35, .any, .any, .any, .any, .any], [], [(3200000, ⟨2, List.map Fault_av y⟩)], true⟩)
set_option maxHeartbeats 64000000 in
theorem impl_AuditEstimates_l2_ex {list : List Estimate} {stars : List Star} {observers : List Observer} {margin : Int} {i : Int} {t34 : Int} {t35 : Int} {t43 : List Int} {t44 : Int} {sgm_ : (List Fault) × Int} {rho_ : (List Fault)} (h : whileE (impl_AuditEstimates_l2 list stars observers margin i t34 t35 t43 t44) sgm_ = some rho_) : ∃ L0, ∀ L, L0 ≤ L → iter (exec (look t_63) L ir11_b1) ir11_k1 ir11_o1 ir11_r1 L (E_63_l2 list stars observers margin i t34 t35 t43 t44 sgm_) = R_63_l2 list stars observers margin i t34 t35 t43 t44 rho_ := by
 refine loop_ex (E := E_63_l2 list stars observers margin i t34 t35 t43 t44) (R := R_63_l2 list stars observers margin i t34 t35 t43 t44) (fun y => by first | (intro c; cases c) | (rcases y with y | y <;> (intro c; cases c)) | (rcases y with y | y | y <;> (intro c; cases c))) ?_ h
 clear h
 rintro ⟨out, t45⟩ o_ h
 dsimp only [impl_AuditEstimates_l2] at h
 rcases it_some h with ⟨z9, h⟩ | ⟨z9, h⟩
 ·try simp only [go_sem, n1, n2, n3, n4] at z9
  all_goals
  obtain ⟨z10, h⟩ := ck_some h
  have lz10 := ix_lt z10
  have xz10 := getD_mapD (AV.int .i64) t43 lz10
  try simp only [go_sem] at lz10
  try simp only [go_sem] at xz10
  try simp only [go_sem, n1, n2, n3, n4, z9] at z10
  all_goals
  obtain ⟨z11, h⟩ := ck_some h
  try simp only [go_sem, n1, n2, n3, n4, z9, z10] at z11
  all_goals
  obtain rfl := so_some h
  refine ⟨0, fun L hL => ?_⟩
  simp only [go_sem, ir11, E_63_l2, R_63_l2, ir11_b1, ir11_k1, ir11_o1, ir11_r1, z9, z10, lz10, xz10, z11]
 ·try simp only [go_sem, n1, n2, n3, n4] at z9
  all_goals
  obtain rfl := so_some h
  refine ⟨0, fun L hL => ?_⟩
  simp only [go_sem, ir11, E_63_l2, R_63_l2, ir11_b1, ir11_k1, ir11_o1, ir11_r1, z9]

def E_63_l1 (list : List Estimate) (stars : List Star) (observers : List Observer) (margin : Int) (t34 : Int) : ((List Fault) × Int) → St
 | (out, t35) => ⟨[.sl 5 (List.map Estimate_av list), .sl 5 (List.map Star_av stars), .sl 2 (List.map Observer_av observers), .int .i64 margin, .any, .any, .own 3200000, .any, .any, .int .i64 t34, .int .i64 t35, .any, .any, .any, .any, .any], [], [(3200000, ⟨2, List.map Fault_av out⟩)], true⟩
def R_63_l1 (list : List Estimate) (stars : List Star) (observers : List Observer) (margin : Int) (t34 : Int) (y : (List Fault)) : Res := (.exit 1, ⟨[.any, .any, .any, .any, .any, .any, .own 3200000, .any, .any, .any, .any, .any, .any, .any, .any, .any], [], [(3200000, ⟨2, List.map Fault_av y⟩)], true⟩)
set_option maxHeartbeats 64000000 in
theorem impl_AuditEstimates_l1_ex {list : List Estimate} {stars : List Star} {observers : List Observer} {margin : Int} {t34 : Int} {sgm_ : (List Fault) × Int} {rho_ : (List Fault)} (h : whileE (impl_AuditEstimates_l1 list stars observers margin t34) sgm_ = some rho_) : ∃ L0, ∀ L, L0 ≤ L → iter (exec (look t_63) L ir11_b0) ir11_k0 ir11_o0 ir11_r0 L (E_63_l1 list stars observers margin t34 sgm_) = R_63_l1 list stars observers margin t34 rho_ := by
 refine loop_ex (E := E_63_l1 list stars observers margin t34) (R := R_63_l1 list stars observers margin t34) (fun y => by first | (intro c; cases c) | (rcases y with y | y <;> (intro c; cases c)) | (rcases y with y | y | y <;> (intro c; cases c))) ?_ h
 clear h
 rintro ⟨out, t35⟩ o_ h
 dsimp only [impl_AuditEstimates_l1] at h
 rcases it_some h with ⟨z7, h⟩ | ⟨z7, h⟩
 ·try simp only [go_sem, n1, n2, n3, n4] at z7
  all_goals
  obtain ⟨y_8, z8, h⟩ := bd_some h
  have fz8 := Fs_impl_kindsOf z8
  try simp only [go_sem, z7] at fz8
  obtain ⟨y_12, z12, h⟩ := bd_some h
  obtain ⟨Lz12, ez12⟩ := impl_AuditEstimates_l2_ex z12
  obtain rfl := so_some h
  refine ⟨Lz12, fun L hL => ?_⟩
  have ez12 := ez12 L (by omega)
  try simp only [go_sem, E_63_l1, R_63_l1, ir11_b0, ir11_k0, ir11_o0, ir11_r0, E_63_l2, R_63_l2, ir11_k1, ir11_o1, ir11_r1, z7] at ez12
  simp only [go_sem, ir11, E_63_l1, R_63_l1, ir11_b0, ir11_k0, ir11_o0, ir11_r0, E_63_l2, R_63_l2, ir11_k1, ir11_o1, ir11_r1, z7, fz8, ez12]
 ·try simp only [go_sem, n1, n2, n3, n4] at z7
  all_goals
  obtain rfl := so_some h
  refine ⟨0, fun L hL => ?_⟩
  simp only [go_sem, ir11, E_63_l1, R_63_l1, ir11_b0, ir11_k0, ir11_o0, ir11_r0, E_63_l2, R_63_l2, ir11_k1, ir11_o1, ir11_r1, z7]

set_option maxHeartbeats 64000000 in
theorem Fs_63 {list : List Estimate} {stars : List Star} {observers : List Observer} {margin : Int} {y_ : (List Fault) × Int} (h : impl_AuditEstimates list stars observers margin = some y_) : c_63.F [.sl 5 (List.map Estimate_av list), .sl 5 (List.map Star_av stars), .sl 2 (List.map Observer_av observers), .int .i64 margin] = ⟨true, .tup [.fresh 2 (List.map Fault_av y_.1), .int .i64 y_.2], [.any, .any, .any, .any]⟩ := by
 refine mkF_E (by simp only [flatA, flatB, flat1, List.all_cons, List.all_nil, Bool.and_self, flatE_map (f := Fault_av) (fun _ => rfl)]) ?_
 dsimp only [impl_AuditEstimates] at h
 obtain ⟨y_1, z1, h⟩ := bd_some h
 have fz1 := Fs_43 z1
 try simp only [go_sem] at fz1
 obtain ⟨z2, h⟩ := ck_some h
 rcases or_split z2 with ⟨gz2, z2⟩ | gz2
 ·try simp only [go_sem, n1, n2, n3, n4] at gz2
  all_goals
  obtain ⟨y_2, hz2⟩ := Option.isSome_iff_exists.1 z2
  have fz2 := Fs_47 hz2
  try simp only [go_sem, n1, n2, n3, n4, gz2] at hz2
  all_goals
  try simp only [go_sem, gz2] at fz2
  obtain ⟨z3, h⟩ := ck_some h
  rcases or_split z3 with ⟨gz3, z3⟩ | gz3
  ·try simp only [go_sem, n1, n2, n3, n4, gz2, hz2] at gz3
   all_goals
   obtain ⟨y_3, hz3⟩ := Option.isSome_iff_exists.1 z3
   have fz3 := Fs_51 hz3
   try simp only [go_sem, n1, n2, n3, n4, gz2, hz2, gz3] at hz3
   all_goals
   try simp only [go_sem, gz2, hz2, gz3] at fz3
   rcases it_some h with ⟨z4, h⟩ | ⟨z4, h⟩
   ·try simp only [go_sem, n1, n2, n3, n4, gz2, hz2, gz3, hz3] at z4
    all_goals
    obtain rfl := so_some h
    refine ⟨0, fun L hL => ?_⟩
    simp only [go_sem, ir11, E_63_l2, R_63_l2, ir11_k1, ir11_o1, ir11_r1, E_63_l1, R_63_l1, ir11_k0, ir11_o0, ir11_r0, fz1, gz2, hz2, fz2, gz3, hz3, fz3, z4]
   ·try simp only [go_sem, n1, n2, n3, n4, gz2, hz2, gz3, hz3] at z4
    all_goals
    obtain ⟨y_5, z5, h⟩ := bd_some h
    have fz5 := Fs_31 z5
    try simp only [go_sem, gz2, hz2, gz3, hz3, z4] at fz5
    rcases it_some h with ⟨z6, h⟩ | ⟨z6, h⟩
    ·try simp only [go_sem, n1, n2, n3, n4, gz2, hz2, gz3, hz3, z4] at z6
     all_goals
     obtain rfl := so_some h
     refine ⟨0, fun L hL => ?_⟩
     simp only [go_sem, ir11, E_63_l2, R_63_l2, ir11_k1, ir11_o1, ir11_r1, E_63_l1, R_63_l1, ir11_k0, ir11_o0, ir11_r0, fz1, gz2, hz2, fz2, gz3, hz3, fz3, z4, fz5, z6]
    ·try simp only [go_sem, n1, n2, n3, n4, gz2, hz2, gz3, hz3, z4] at z6
     all_goals
     obtain ⟨y_13, z13, h⟩ := bd_some h
     obtain ⟨Lz13, ez13⟩ := impl_AuditEstimates_l1_ex z13
     obtain rfl := so_some h
     refine ⟨Lz13, fun L hL => ?_⟩
     have ez13 := ez13 L (by omega)
     try simp only [go_sem, E_63_l2, R_63_l2, ir11_k1, ir11_o1, ir11_r1, E_63_l1, R_63_l1, ir11_k0, ir11_o0, ir11_r0, gz2, hz2, gz3, hz3, z4, z6] at ez13
     simp only [go_sem, ir11, E_63_l2, R_63_l2, ir11_k1, ir11_o1, ir11_r1, E_63_l1, R_63_l1, ir11_k0, ir11_o0, ir11_r0, fz1, gz2, hz2, fz2, gz3, hz3, fz3, z4, fz5, z6, ez13]
  ·have gz3n := no_f gz3
   rcases or_t gz3n with gz3na | ⟨gz3na, gz3nb⟩
   ·try simp only [go_sem, n1, n2, n3, n4, gz2, hz2] at gz3na
    all_goals
    (simp_all)
   ·have gz3nan := no_f gz3na
    have gz3nbn := no_t gz3nb
    try simp only [go_sem, n1, n2, n3, n4, gz2, hz2] at gz3nan
    all_goals
    try simp only [go_sem, n1, n2, n3, n4, gz2, hz2, gz3nan] at gz3nbn
    all_goals
    rcases it_some h with ⟨z4, h⟩ | ⟨z4, h⟩
    ·try simp only [go_sem, n1, n2, n3, n4, gz2, hz2, gz3nan, gz3nbn] at z4
     all_goals
     obtain rfl := so_some h
     refine ⟨0, fun L hL => ?_⟩
     simp only [go_sem, ir11, E_63_l2, R_63_l2, ir11_k1, ir11_o1, ir11_r1, E_63_l1, R_63_l1, ir11_k0, ir11_o0, ir11_r0, fz1, gz2, hz2, fz2, gz3nan, gz3nbn, z4]
    ·try simp only [go_sem, n1, n2, n3, n4, gz2, hz2, gz3nan, gz3nbn] at z4
     all_goals
     (simp_all)
 ·have gz2n := no_f gz2
  have gz2nn := no_t gz2n
  try simp only [go_sem, n1, n2, n3, n4] at gz2nn
  all_goals
  obtain ⟨z3, h⟩ := ck_some h
  rcases it_some h with ⟨z4, h⟩ | ⟨z4, h⟩
  ·try simp only [go_sem, n1, n2, n3, n4, gz2nn] at z4
   all_goals
   obtain rfl := so_some h
   refine ⟨0, fun L hL => ?_⟩
   simp only [go_sem, ir11, E_63_l2, R_63_l2, ir11_k1, ir11_o1, ir11_r1, E_63_l1, R_63_l1, ir11_k0, ir11_o0, ir11_r0, fz1, gz2nn, z4]
  ·try simp only [go_sem, n1, n2, n3, n4, gz2nn] at z4
   all_goals
   (simp_all)


def ir37_v : List Nat := [0, 1, 2, 3, 4]
def ir37 : AFn := ⟨2, 5, .seq (.region false [ VO 2 2 (.box (.v 0)), VO 3 3 (.box (.v 1)), VO 4 4 (.mov (.c (.bool false)))]) (.seq (.test false [ PO 5 (.fldAddr 0 (.v 2)), PO 6 (.load false 1 (.s 0)), PO 7 (.fldAddr 0 (.v 3)), PO 8 (.load false 1 (.s 0)), PO 9 (.bin false .neq (.s 2) (.s 0))] (.s 0) (.seq (.region false [ VO 4 4 (.mov (.c (.bool false)))]) (.ret)) (.skip)) (.seq (.test false [ PO 10 (.fldAddr 1 (.v 2)), PO 11 (.load false 1 (.s 0)), PO 12 (.fldAddr 1 (.v 3)), PO 13 (.load false 1 (.s 0)), PO 14 (.bin false .neq (.s 2) (.s 0))] (.s 0) (.seq (.region false [ VO 4 4 (.mov (.c
 (.bool false)))]) (.ret)) (.skip)) (.seq (.region false [ VO 4 4 (.mov (.c (.bool true)))]) (.ret)))), [.t 4]⟩
noncomputable def t_64 : List (Nat × Ctr) := []
noncomputable def c_64 : Ctr := mkF t_64 ir37 [.bor, .bor]
theorem s_64 : Sound Try.prog 37 c_64 := mkF_sound _ rfl snd_nil (by kernel_rfl : chkFn Try.prog 37 ir37 ir37_v = true)
theorem M_64 : c_64.modes = [.bor, .bor] := rfl
theorem Fl_64 : c_64.flat = true := rfl
attribute [go_sem] M_64 Fl_64
theorem Fs_64 {a : Fault} {b : Fault} {y_ : Bool} (h : laws_eqFault a b = some y_) : c_64.F [Fault_av a, Fault_av b] = ⟨true, .bool y_, [.any, .any]⟩ := by
 refine mkF_E rfl ?_
 dsimp only [laws_eqFault] at h
 rcases it_some h with ⟨z1, h⟩ | ⟨z1, h⟩
 ·try simp only [go_sem, n1, n2, n3, n4] at z1
  all_goals
  obtain rfl := so_some h
  refine ⟨0, fun L hL => ?_⟩
  simp only [go_sem, ir37, z1]
 ·try simp only [go_sem, n1, n2, n3, n4] at z1
  all_goals
  rcases it_some h with ⟨z2, h⟩ | ⟨z2, h⟩
  ·try simp only [go_sem, n1, n2, n3, n4, z1] at z2
   all_goals
   obtain rfl := so_some h
   refine ⟨0, fun L hL => ?_⟩
   simp only [go_sem, ir37, z1, z2]
  ·try simp only [go_sem, n1, n2, n3, n4, z1] at z2
   all_goals
   obtain rfl := so_some h
   refine ⟨0, fun L hL => ?_⟩
   simp only [go_sem, ir37, z1, z2]


def ir12_b0 : IR := .seq (.test false [ PM 11 3, PM 12 0, PO 13 (.len false (.s 0)), PO 14 (.bin false .lss (.s 2) (.s 0))] (.s 0) (.skip) (.exit 0)) (.seq (.block 1 (.anyo 10 [ SO 0 17 (.mov (.v 0)), SO 1 18 (.mov (.v 3)), SO 2 19 (.ixAddr 2 (.s 0) (.s 1)), SO 3 20 (.load true 2 (.s 2)), SO 4 21 (.mov (.v 1)), SO 5 22 (.mov (.v 3)), SO 6 23 (.ixAddr 2 (.s 4) (.s 5)), SO 7 24 (.load true 2 (.s 6)), SO 8 25 (.callp 37 [(.s 3), (.s 7)]), SO 9 26 (.un .not (.s 8))] [] (.cond (.s 9) (.seq (.region false [ VO 2 4 (.mov (.c (.bool false)))]) (.ret)) (.skip)))) (.region false [ PM 15 3, PO 16 (.bin
 false .add (.s 0) (I6 1)), VS 3 5 0]))
def ir12_k0 : List Bool := [true, true, false, true]
def ir12_o0 : List Bool := [false, false, false, false]
def ir12_r0 : List Bool := [false, false, true, false]
def ir12_v : List Nat := [0, 1, 4, 5]
def ir12 : AFn := ⟨2, 4, .seq (.region false [ VO 2 4 (.mov (.c (.bool false)))]) (.seq (.test false [ PM 6 0, PO 7 (.len false (.s 0)), PM 8 1, PO 9 (.len false (.s 0)), PO 10 (.bin false .neq (.s 2) (.s 0))] (.s 0) (.seq (.region false [ VO 2 4 (.mov (.c (.bool false)))]) (.ret)) (.skip)) (.seq (.seq (.region false [ VO 3 5 (.mov (I6 0))]) (.block 0 (.loop ir12_k0 ir12_o0 ir12_r0 ir12_b0))) (.seq (.region false [ VO 2 4 (.mov (.c (.bool true)))]) (.ret)))), [.t 2]⟩
noncomputable def t_65 : List (Nat × Ctr) := [(37, c_64)]
theorem lk_65_37 : look t_65 37 = some c_64 := rfl
noncomputable def c_65 : Ctr := mkF t_65 ir12 [.bor, .bor]
theorem s_65 : Sound Try.prog 12 c_65 := mkF_sound _ rfl (snd_cons s_64 snd_nil) (by kernel_rfl : chkFn Try.prog 12 ir12 ir12_v = true)
theorem M_65 : c_65.modes = [.bor, .bor] := rfl
theorem Fl_65 : c_65.flat = true := rfl
attribute [go_sem] M_65 Fl_65
attribute [go_sem] lk_65_37
def E_65_l1 (a : List Fault) (b : List Fault) : Int → St
 | i => ⟨[.sl 2 (List.map Fault_av a), .sl 2 (List.map Fault_av b), .any, .int .i64 i], [], [], true⟩
def R_65_l1 (a : List Fault) (b : List Fault) : (Unit ⊕ Bool) → Res
 | .inl y => (.exit 0, ⟨[.any, .any, .any, .any], [], [], true⟩)
 | .inr y => (.ret, ⟨[.any, .any, .bool y, .any], [], [], true⟩)
theorem laws_eqFaultS_l1_ex {a : List Fault} {b : List Fault} {sgm_ : Int} {rho_ : Unit ⊕ Bool} (h : whileE (laws_eqFaultS_l1 a b) sgm_ = some rho_) : ∃ L0, ∀ L, L0 ≤ L → iter (exec (look t_65) L ir12_b0) ir12_k0 ir12_o0 ir12_r0 L (E_65_l1 a b sgm_) = R_65_l1 a b rho_ := by
 refine loop_ex (E := E_65_l1 a b) (R := R_65_l1 a b) (fun y => by first | (intro c; cases c) | (rcases y with y | y <;> (intro c; cases c)) | (rcases y with y | y | y <;> (intro c; cases c))) ?_ h
 clear h
 intro i o_ h
 dsimp only [laws_eqFaultS_l1] at h
 rcases it_some h with ⟨z2, h⟩ | ⟨z2, h⟩
 ·try simp only [go_sem, n1, n2, n3, n4] at z2
  all_goals
  obtain ⟨z3, h⟩ := ck_some h
  have lz3 := ix_lt z3
  have xz3 := getD_mapD Fault_av a lz3
  try simp only [go_sem] at lz3
  try simp only [go_sem] at xz3
  try simp only [go_sem, n1, n2, n3, n4, z2] at z3
  all_goals
  obtain ⟨z4, h⟩ := ck_some h
  have lz4 := ix_lt z4
  have xz4 := getD_mapD Fault_av b lz4
  try simp only [go_sem] at lz4
  try simp only [go_sem] at xz4
  try simp only [go_sem, n1, n2, n3, n4, z2, z3] at z4
  all_goals
  obtain ⟨y_5, z5, h⟩ := bd_some h
  have fz5 := Fs_64 z5
  try simp only [go_sem, z2, z3, z4] at fz5
  rcases it_some h with ⟨z6, h⟩ | ⟨z6, h⟩
  ·try simp only [go_sem, n1, n2, n3, n4, z2, z3, z4] at z6
   all_goals
   obtain rfl := so_some h
   refine ⟨0, fun L hL => ?_⟩
   simp only [go_sem, ir12, E_65_l1, R_65_l1, ir12_b0, ir12_k0, ir12_o0, ir12_r0, z2, z3, lz3, xz3, z4, lz4, xz4, fz5, z6]
  ·try simp only [go_sem, n1, n2, n3, n4, z2, z3, z4] at z6
   all_goals
   obtain rfl := so_some h
   refine ⟨0, fun L hL => ?_⟩
   simp only [go_sem, ir12, E_65_l1, R_65_l1, ir12_b0, ir12_k0, ir12_o0, ir12_r0, z2, z3, lz3, xz3, z4, lz4, xz4, fz5, z6]
 ·try simp only [go_sem, n1, n2, n3, n4] at z2
  all_goals
  obtain rfl := so_some h
  refine ⟨0, fun L hL => ?_⟩
  simp only [go_sem, ir12, E_65_l1, R_65_l1, ir12_b0, ir12_k0, ir12_o0, ir12_r0, z2]

theorem Fs_65 {a : List Fault} {b : List Fault} {y_ : Bool} (h : laws_eqFaultS a b = some y_) : c_65.F [.sl 2 (List.map Fault_av a), .sl 2 (List.map Fault_av b)] = ⟨true, .bool y_, [.any, .any]⟩ := by
 refine mkF_E rfl ?_
 dsimp only [laws_eqFaultS] at h
 rcases it_some h with ⟨z1, h⟩ | ⟨z1, h⟩
 ·try simp only [go_sem, n1, n2, n3, n4] at z1
  all_goals
  obtain rfl := so_some h
  refine ⟨0, fun L hL => ?_⟩
  simp only [go_sem, ir12, E_65_l1, R_65_l1, ir12_k0, ir12_o0, ir12_r0, z1]
 ·try simp only [go_sem, n1, n2, n3, n4] at z1
  all_goals
  obtain ⟨y_7, z7, h⟩ := bd_some h
  obtain ⟨Lz7, ez7⟩ := laws_eqFaultS_l1_ex z7
  rcases y_7 with y_7a | y_7b
  ·dsimp only at h
   obtain rfl := so_some h
   refine ⟨Lz7, fun L hL => ?_⟩
   have ez7 := ez7 L (by omega)
   try simp only [go_sem, E_65_l1, R_65_l1, ir12_k0, ir12_o0, ir12_r0, z1] at ez7
   simp only [go_sem, ir12, E_65_l1, R_65_l1, ir12_k0, ir12_o0, ir12_r0, z1, ez7]
  ·dsimp only at h
   obtain rfl := so_some h
   refine ⟨Lz7, fun L hL => ?_⟩
   have ez7 := ez7 L (by omega)
   try simp only [go_sem, E_65_l1, R_65_l1, ir12_k0, ir12_o0, ir12_r0, z1] at ez7
   simp only [go_sem, ir12, E_65_l1, R_65_l1, ir12_k0, ir12_o0, ir12_r0, z1, ez7]


def ir38_v : List Nat := [0, 1, 2, 3, 4]
def ir38 : AFn := ⟨2, 5, .seq (.region false [ VO 2 2 (.box (.v 0)), VO 3 3 (.box (.v 1)), VO 4 4 (.mov (.c (.bool false)))]) (.seq (.test false [ PO 5 (.fldAddr 0 (.v 2)), PO 6 (.load false 1 (.s 0)), PO 7 (.fldAddr 0 (.v 3)), PO 8 (.load false 1 (.s 0)), PO 9 (.bin false .neq (.s 2) (.s 0))] (.s 0) (.seq (.region false [ VO 4 4 (.mov (.c (.bool false)))]) (.ret)) (.skip)) (.seq (.test false [ PO 10 (.fldAddr 1 (.v 2)), PO 11 (.load false 1 (.s 0)), PO 12 (.fldAddr 1 (.v 3)), PO 13 (.load false 1 (.s 0)), PO 14 (.bin false .neq (.s 2) (.s 0))] (.s 0) (.seq (.region false [ VO 4 4 (.mov (.c
 (.bool false)))]) (.ret)) (.skip)) (.seq (.test false [ PO 15 (.fldAddr 2 (.v 2)), PO 16 (.load false 1 (.s 0)), PO 17 (.fldAddr 2 (.v 3)), PO 18 (.load false 1 (.s 0)), PO 19 (.bin false .neq (.s 2) (.s 0))] (.s 0) (.seq (.region false [ VO 4 4 (.mov (.c (.bool false)))]) (.ret)) (.skip)) (.seq (.test false [ PO 20 (.fldAddr 3 (.v 2)), PO 21 (.load false 1 (.s 0)), PO 22 (.fldAddr 3 (.v 3)), PO 23 (.load false 1 (.s 0)), PO 24 (.bin false .neq (.s 2) (.s 0))] (.s 0) (.seq (.region false [ VO 4 4 (.mov (.c (.bool false)))]) (.ret)) (.skip)) (.seq (.test false [ PO 25 (.fldAddr 4 (.v 2)), PO 26
 (.load false 1 (.s 0)), PO 27 (.fldAddr 4 (.v 3)), PO 28 (.load false 1 (.s 0)), PO 29 (.bin true .neq (.s 2) (.s 0))] (.s 0) (.seq (.region false [ VO 4 4 (.mov (.c (.bool false)))]) (.ret)) (.skip)) (.seq (.region false [ VO 4 4 (.mov (.c (.bool true)))]) (.ret))))))), [.t 4]⟩
noncomputable def t_66 : List (Nat × Ctr) := []
noncomputable def c_66 : Ctr := mkF t_66 ir38 [.bor, .bor]
theorem s_66 : Sound Try.prog 38 c_66 := mkF_sound _ rfl snd_nil (by kernel_rfl : chkFn Try.prog 38 ir38 ir38_v = true)
theorem M_66 : c_66.modes = [.bor, .bor] := rfl
theorem Fl_66 : c_66.flat = true := rfl
attribute [go_sem] M_66 Fl_66
theorem Fs_66 {a : Estimate} {b : Estimate} {y_ : Bool} (h : laws_eqEstimate a b = some y_) : c_66.F [Estimate_av a, Estimate_av b] = ⟨true, .bool y_, [.any, .any]⟩ := by
 refine mkF_E rfl ?_
 dsimp only [laws_eqEstimate] at h
 rcases it_some h with ⟨z1, h⟩ | ⟨z1, h⟩
 ·try simp only [go_sem, n1, n2, n3, n4] at z1
  all_goals
  obtain rfl := so_some h
  refine ⟨0, fun L hL => ?_⟩
  simp only [go_sem, ir38, z1]
 ·try simp only [go_sem, n1, n2, n3, n4] at z1
  all_goals
  rcases it_some h with ⟨z2, h⟩ | ⟨z2, h⟩
  ·try simp only [go_sem, n1, n2, n3, n4, z1] at z2
   all_goals
   obtain rfl := so_some h
   refine ⟨0, fun L hL => ?_⟩
   simp only [go_sem, ir38, z1, z2]
  ·try simp only [go_sem, n1, n2, n3, n4, z1] at z2
   all_goals
   rcases it_some h with ⟨z3, h⟩ | ⟨z3, h⟩
   ·try simp only [go_sem, n1, n2, n3, n4, z1, z2] at z3
    all_goals
    obtain rfl := so_some h
    refine ⟨0, fun L hL => ?_⟩
    simp only [go_sem, ir38, z1, z2, z3]
   ·try simp only [go_sem, n1, n2, n3, n4, z1, z2] at z3
    all_goals
    rcases it_some h with ⟨z4, h⟩ | ⟨z4, h⟩
    ·try simp only [go_sem, n1, n2, n3, n4, z1, z2, z3] at z4
     all_goals
     obtain rfl := so_some h
     refine ⟨0, fun L hL => ?_⟩
     simp only [go_sem, ir38, z1, z2, z3, z4]
    ·try simp only [go_sem, n1, n2, n3, n4, z1, z2, z3] at z4
     all_goals
     rcases it_some h with ⟨z5, h⟩ | ⟨z5, h⟩
     ·try simp only [go_sem, n1, n2, n3, n4, z1, z2, z3, z4] at z5
      all_goals
      obtain rfl := so_some h
      refine ⟨0, fun L hL => ?_⟩
      simp only [go_sem, ir38, z1, z2, z3, z4, z5]
     ·try simp only [go_sem, n1, n2, n3, n4, z1, z2, z3, z4] at z5
      all_goals
      obtain rfl := so_some h
      refine ⟨0, fun L hL => ?_⟩
      simp only [go_sem, ir38, z1, z2, z3, z4, z5]


def ir13_b0 : IR := .seq (.test false [ PM 11 3, PM 12 0, PO 13 (.len false (.s 0)), PO 14 (.bin false .lss (.s 2) (.s 0))] (.s 0) (.skip) (.exit 0)) (.seq (.block 1 (.anyo 10 [ SO 0 17 (.mov (.v 0)), SO 1 18 (.mov (.v 3)), SO 2 19 (.ixAddr 5 (.s 0) (.s 1)), SO 3 20 (.load true 5 (.s 2)), SO 4 21 (.mov (.v 1)), SO 5 22 (.mov (.v 3)), SO 6 23 (.ixAddr 5 (.s 4) (.s 5)), SO 7 24 (.load true 5 (.s 6)), SO 8 25 (.callp 38 [(.s 3), (.s 7)]), SO 9 26 (.un .not (.s 8))] [] (.cond (.s 9) (.seq (.region false [ VO 2 4 (.mov (.c (.bool false)))]) (.ret)) (.skip)))) (.region false [ PM 15 3, PO 16 (.bin
 false .add (.s 0) (I6 1)), VS 3 5 0]))
def ir13_k0 : List Bool := [true, true, false, true]
def ir13_o0 : List Bool := [false, false, false, false]
def ir13_r0 : List Bool := [false, false, true, false]
def ir13_v : List Nat := [0, 1, 4, 5]
def ir13 : AFn := ⟨2, 4, .seq (.region false [ VO 2 4 (.mov (.c (.bool false)))]) (.seq (.test false [ PM 6 0, PO 7 (.len false (.s 0)), PM 8 1, PO 9 (.len false (.s 0)), PO 10 (.bin false .neq (.s 2) (.s 0))] (.s 0) (.seq (.region false [ VO 2 4 (.mov (.c (.bool false)))]) (.ret)) (.skip)) (.seq (.seq (.region false [ VO 3 5 (.mov (I6 0))]) (.block 0 (.loop ir13_k0 ir13_o0 ir13_r0 ir13_b0))) (.seq (.region false [ VO 2 4 (.mov (.c (.bool true)))]) (.ret)))), [.t 2]⟩
noncomputable def t_67 : List (Nat × Ctr) := [(38, c_66)]
theorem lk_67_38 : look t_67 38 = some c_66 := rfl
noncomputable def c_67 : Ctr := mkF t_67 ir13 [.bor, .bor]
theorem s_67 : Sound Try.prog 13 c_67 := mkF_sound _ rfl (snd_cons s_66 snd_nil) (by kernel_rfl : chkFn Try.prog 13 ir13 ir13_v = true)
theorem M_67 : c_67.modes = [.bor, .bor] := rfl
theorem Fl_67 : c_67.flat = true := rfl
attribute [go_sem] M_67 Fl_67
attribute [go_sem] lk_67_38
def E_67_l1 (a : List Estimate) (b : List Estimate) : Int → St
 | i => ⟨[.sl 5 (List.map Estimate_av a), .sl 5 (List.map Estimate_av b), .any, .int .i64 i], [], [], true⟩
def R_67_l1 (a : List Estimate) (b : List Estimate) : (Unit ⊕ Bool) → Res
 | .inl y => (.exit 0, ⟨[.any, .any, .any, .any], [], [], true⟩)
 | .inr y => (.ret, ⟨[.any, .any, .bool y, .any], [], [], true⟩)
theorem laws_eqEstimateS_l1_ex {a : List Estimate} {b : List Estimate} {sgm_ : Int} {rho_ : Unit ⊕ Bool} (h : whileE (laws_eqEstimateS_l1 a b) sgm_ = some rho_) : ∃ L0, ∀ L, L0 ≤ L → iter (exec (look t_67) L ir13_b0) ir13_k0 ir13_o0 ir13_r0 L (E_67_l1 a b sgm_) = R_67_l1 a b rho_ := by
 refine loop_ex (E := E_67_l1 a b) (R := R_67_l1 a b) (fun y => by first | (intro c; cases c) | (rcases y with y | y <;> (intro c; cases c)) | (rcases y with y | y | y <;> (intro c; cases c))) ?_ h
 clear h
 intro i o_ h
 dsimp only [laws_eqEstimateS_l1] at h
 rcases it_some h with ⟨z2, h⟩ | ⟨z2, h⟩
 ·try simp only [go_sem, n1, n2, n3, n4] at z2
  all_goals
  obtain ⟨z3, h⟩ := ck_some h
  have lz3 := ix_lt z3
  have xz3 := getD_mapD Estimate_av a lz3
  try simp only [go_sem] at lz3
  try simp only [go_sem] at xz3
  try simp only [go_sem, n1, n2, n3, n4, z2] at z3
  all_goals
  obtain ⟨z4, h⟩ := ck_some h
  have lz4 := ix_lt z4
  have xz4 := getD_mapD Estimate_av b lz4
  try simp only [go_sem] at lz4
  try simp only [go_sem] at xz4
  try simp only [go_sem, n1, n2, n3, n4, z2, z3] at z4
  all_goals
  obtain ⟨y_5, z5, h⟩ := bd_some h
  have fz5 := Fs_66 z5
  try simp only [go_sem, z2, z3, z4] at fz5
  rcases it_some h with ⟨z6, h⟩ | ⟨z6, h⟩
  ·try simp only [go_sem, n1, n2, n3, n4, z2, z3, z4] at z6
   all_goals
   obtain rfl := so_some h
   refine ⟨0, fun L hL => ?_⟩
   simp only [go_sem, ir13, E_67_l1, R_67_l1, ir13_b0, ir13_k0, ir13_o0, ir13_r0, z2, z3, lz3, xz3, z4, lz4, xz4, fz5, z6]
  ·try simp only [go_sem, n1, n2, n3, n4, z2, z3, z4] at z6
   all_goals
   obtain rfl := so_some h
   refine ⟨0, fun L hL => ?_⟩
   simp only [go_sem, ir13, E_67_l1, R_67_l1, ir13_b0, ir13_k0, ir13_o0, ir13_r0, z2, z3, lz3, xz3, z4, lz4, xz4, fz5, z6]
 ·try simp only [go_sem, n1, n2, n3, n4] at z2
  all_goals
  obtain rfl := so_some h
  refine ⟨0, fun L hL => ?_⟩
  simp only [go_sem, ir13, E_67_l1, R_67_l1, ir13_b0, ir13_k0, ir13_o0, ir13_r0, z2]

theorem Fs_67 {a : List Estimate} {b : List Estimate} {y_ : Bool} (h : laws_eqEstimateS a b = some y_) : c_67.F [.sl 5 (List.map Estimate_av a), .sl 5 (List.map Estimate_av b)] = ⟨true, .bool y_, [.any, .any]⟩ := by
 refine mkF_E rfl ?_
 dsimp only [laws_eqEstimateS] at h
 rcases it_some h with ⟨z1, h⟩ | ⟨z1, h⟩
 ·try simp only [go_sem, n1, n2, n3, n4] at z1
  all_goals
  obtain rfl := so_some h
  refine ⟨0, fun L hL => ?_⟩
  simp only [go_sem, ir13, E_67_l1, R_67_l1, ir13_k0, ir13_o0, ir13_r0, z1]
 ·try simp only [go_sem, n1, n2, n3, n4] at z1
  all_goals
  obtain ⟨y_7, z7, h⟩ := bd_some h
  obtain ⟨Lz7, ez7⟩ := laws_eqEstimateS_l1_ex z7
  rcases y_7 with y_7a | y_7b
  ·dsimp only at h
   obtain rfl := so_some h
   refine ⟨Lz7, fun L hL => ?_⟩
   have ez7 := ez7 L (by omega)
   try simp only [go_sem, E_67_l1, R_67_l1, ir13_k0, ir13_o0, ir13_r0, z1] at ez7
   simp only [go_sem, ir13, E_67_l1, R_67_l1, ir13_k0, ir13_o0, ir13_r0, z1, ez7]
  ·dsimp only at h
   obtain rfl := so_some h
   refine ⟨Lz7, fun L hL => ?_⟩
   have ez7 := ez7 L (by omega)
   try simp only [go_sem, E_67_l1, R_67_l1, ir13_k0, ir13_o0, ir13_r0, z1] at ez7
   simp only [go_sem, ir13, E_67_l1, R_67_l1, ir13_k0, ir13_o0, ir13_r0, z1, ez7]


def ir39_v : List Nat := [0, 1, 2, 3, 4]
def ir39 : AFn := ⟨2, 5, .seq (.region false [ VO 2 2 (.box (.v 0)), VO 3 3 (.box (.v 1)), VO 4 4 (.mov (.c (.bool false)))]) (.seq (.test false [ PO 5 (.fldAddr 0 (.v 2)), PO 6 (.load false 1 (.s 0)), PO 7 (.fldAddr 0 (.v 3)), PO 8 (.load false 1 (.s 0)), PO 9 (.bin false .neq (.s 2) (.s 0))] (.s 0) (.seq (.region false [ VO 4 4 (.mov (.c (.bool false)))]) (.ret)) (.skip)) (.seq (.test false [ PO 10 (.fldAddr 1 (.v 2)), PO 11 (.load false 1 (.s 0)), PO 12 (.fldAddr 1 (.v 3)), PO 13 (.load false 1 (.s 0)), PO 14 (.bin false .neq (.s 2) (.s 0))] (.s 0) (.seq (.region false [ VO 4 4 (.mov (.c
 (.bool false)))]) (.ret)) (.skip)) (.seq (.test false [ PO 15 (.fldAddr 2 (.v 2)), PO 16 (.load false 1 (.s 0)), PO 17 (.fldAddr 2 (.v 3)), PO 18 (.load false 1 (.s 0)), PO 19 (.bin false .neq (.s 2) (.s 0))] (.s 0) (.seq (.region false [ VO 4 4 (.mov (.c (.bool false)))]) (.ret)) (.skip)) (.seq (.test false [ PO 20 (.fldAddr 3 (.v 2)), PO 21 (.load false 1 (.s 0)), PO 22 (.fldAddr 3 (.v 3)), PO 23 (.load false 1 (.s 0)), PO 24 (.bin false .neq (.s 2) (.s 0))] (.s 0) (.seq (.region false [ VO 4 4 (.mov (.c (.bool false)))]) (.ret)) (.skip)) (.seq (.test false [ PO 25 (.fldAddr 4 (.v 2)), PO 26
 (.load false 1 (.s 0)), PO 27 (.fldAddr 4 (.v 3)), PO 28 (.load false 1 (.s 0)), PO 29 (.bin false .neq (.s 2) (.s 0))] (.s 0) (.seq (.region false [ VO 4 4 (.mov (.c (.bool false)))]) (.ret)) (.skip)) (.seq (.region false [ VO 4 4 (.mov (.c (.bool true)))]) (.ret))))))), [.t 4]⟩
noncomputable def t_68 : List (Nat × Ctr) := []
noncomputable def c_68 : Ctr := mkF t_68 ir39 [.bor, .bor]
theorem s_68 : Sound Try.prog 39 c_68 := mkF_sound _ rfl snd_nil (by kernel_rfl : chkFn Try.prog 39 ir39 ir39_v = true)
theorem M_68 : c_68.modes = [.bor, .bor] := rfl
theorem Fl_68 : c_68.flat = true := rfl
attribute [go_sem] M_68 Fl_68
theorem Fs_68 {a : Star} {b : Star} {y_ : Bool} (h : laws_eqStar a b = some y_) : c_68.F [Star_av a, Star_av b] = ⟨true, .bool y_, [.any, .any]⟩ := by
 refine mkF_E rfl ?_
 dsimp only [laws_eqStar] at h
 rcases it_some h with ⟨z1, h⟩ | ⟨z1, h⟩
 ·try simp only [go_sem, n1, n2, n3, n4] at z1
  all_goals
  obtain rfl := so_some h
  refine ⟨0, fun L hL => ?_⟩
  simp only [go_sem, ir39, z1]
 ·try simp only [go_sem, n1, n2, n3, n4] at z1
  all_goals
  rcases it_some h with ⟨z2, h⟩ | ⟨z2, h⟩
  ·try simp only [go_sem, n1, n2, n3, n4, z1] at z2
   all_goals
   obtain rfl := so_some h
   refine ⟨0, fun L hL => ?_⟩
   simp only [go_sem, ir39, z1, z2]
  ·try simp only [go_sem, n1, n2, n3, n4, z1] at z2
   all_goals
   rcases it_some h with ⟨z3, h⟩ | ⟨z3, h⟩
   ·try simp only [go_sem, n1, n2, n3, n4, z1, z2] at z3
    all_goals
    obtain rfl := so_some h
    refine ⟨0, fun L hL => ?_⟩
    simp only [go_sem, ir39, z1, z2, z3]
   ·try simp only [go_sem, n1, n2, n3, n4, z1, z2] at z3
    all_goals
    rcases it_some h with ⟨z4, h⟩ | ⟨z4, h⟩
    ·try simp only [go_sem, n1, n2, n3, n4, z1, z2, z3] at z4
     all_goals
     obtain rfl := so_some h
     refine ⟨0, fun L hL => ?_⟩
     simp only [go_sem, ir39, z1, z2, z3, z4]
    ·try simp only [go_sem, n1, n2, n3, n4, z1, z2, z3] at z4
     all_goals
     rcases it_some h with ⟨z5, h⟩ | ⟨z5, h⟩
     ·try simp only [go_sem, n1, n2, n3, n4, z1, z2, z3, z4] at z5
      all_goals
      obtain rfl := so_some h
      refine ⟨0, fun L hL => ?_⟩
      simp only [go_sem, ir39, z1, z2, z3, z4, z5]
     ·try simp only [go_sem, n1, n2, n3, n4, z1, z2, z3, z4] at z5
      all_goals
      obtain rfl := so_some h
      refine ⟨0, fun L hL => ?_⟩
      simp only [go_sem, ir39, z1, z2, z3, z4, z5]


def ir14_b0 : IR := .seq (.test false [ PM 11 3, PM 12 0, PO 13 (.len false (.s 0)), PO 14 (.bin false .lss (.s 2) (.s 0))] (.s 0) (.skip) (.exit 0)) (.seq (.block 1 (.anyo 10 [ SO 0 17 (.mov (.v 0)), SO 1 18 (.mov (.v 3)), SO 2 19 (.ixAddr 5 (.s 0) (.s 1)), SO 3 20 (.load true 5 (.s 2)), SO 4 21 (.mov (.v 1)), SO 5 22 (.mov (.v 3)), SO 6 23 (.ixAddr 5 (.s 4) (.s 5)), SO 7 24 (.load true 5 (.s 6)), SO 8 25 (.callp 39 [(.s 3), (.s 7)]), SO 9 26 (.un .not (.s 8))] [] (.cond (.s 9) (.seq (.region false [ VO 2 4 (.mov (.c (.bool false)))]) (.ret)) (.skip)))) (.region false [ PM 15 3, PO 16 (.bin
 false .add (.s 0) (I6 1)), VS 3 5 0]))
def ir14_k0 : List Bool := [true, true, false, true]
def ir14_o0 : List Bool := [false, false, false, false]
def ir14_r0 : List Bool := [false, false, true, false]
def ir14_v : List Nat := [0, 1, 4, 5]
def ir14 : AFn := ⟨2, 4, .seq (.region false [ VO 2 4 (.mov (.c (.bool false)))]) (.seq (.test false [ PM 6 0, PO 7 (.len false (.s 0)), PM 8 1, PO 9 (.len false (.s 0)), PO 10 (.bin false .neq (.s 2) (.s 0))] (.s 0) (.seq (.region false [ VO 2 4 (.mov (.c (.bool false)))]) (.ret)) (.skip)) (.seq (.seq (.region false [ VO 3 5 (.mov (I6 0))]) (.block 0 (.loop ir14_k0 ir14_o0 ir14_r0 ir14_b0))) (.seq (.region false [ VO 2 4 (.mov (.c (.bool true)))]) (.ret)))), [.t 2]⟩
noncomputable def t_69 : List (Nat × Ctr) := [(39, c_68)]
theorem lk_69_39 : look t_69 39 = some c_68 := rfl
noncomputable def c_69 : Ctr := mkF t_69 ir14 [.bor, .bor]
theorem s_69 : Sound Try.prog 14 c_69 := mkF_sound _ rfl (snd_cons s_68 snd_nil) (by kernel_rfl : chkFn Try.prog 14 ir14 ir14_v = true)
theorem M_69 : c_69.modes = [.bor, .bor] := rfl
theorem Fl_69 : c_69.flat = true := rfl
attribute [go_sem] M_69 Fl_69
attribute [go_sem] lk_69_39
def E_69_l1 (a : List Star) (b : List Star) : Int → St
 | i => ⟨[.sl 5 (List.map Star_av a), .sl 5 (List.map Star_av b), .any, .int .i64 i], [], [], true⟩
def R_69_l1 (a : List Star) (b : List Star) : (Unit ⊕ Bool) → Res
 | .inl y => (.exit 0, ⟨[.any, .any, .any, .any], [], [], true⟩)
 | .inr y => (.ret, ⟨[.any, .any, .bool y, .any], [], [], true⟩)
theorem laws_eqStarS_l1_ex {a : List Star} {b : List Star} {sgm_ : Int} {rho_ : Unit ⊕ Bool} (h : whileE (laws_eqStarS_l1 a b) sgm_ = some rho_) : ∃ L0, ∀ L, L0 ≤ L → iter (exec (look t_69) L ir14_b0) ir14_k0 ir14_o0 ir14_r0 L (E_69_l1 a b sgm_) = R_69_l1 a b rho_ := by
 refine loop_ex (E := E_69_l1 a b) (R := R_69_l1 a b) (fun y => by first | (intro c; cases c) | (rcases y with y | y <;> (intro c; cases c)) | (rcases y with y | y | y <;> (intro c; cases c))) ?_ h
 clear h
 intro i o_ h
 dsimp only [laws_eqStarS_l1] at h
 rcases it_some h with ⟨z2, h⟩ | ⟨z2, h⟩
 ·try simp only [go_sem, n1, n2, n3, n4] at z2
  all_goals
  obtain ⟨z3, h⟩ := ck_some h
  have lz3 := ix_lt z3
  have xz3 := getD_mapD Star_av a lz3
  try simp only [go_sem] at lz3
  try simp only [go_sem] at xz3
  try simp only [go_sem, n1, n2, n3, n4, z2] at z3
  all_goals
  obtain ⟨z4, h⟩ := ck_some h
  have lz4 := ix_lt z4
  have xz4 := getD_mapD Star_av b lz4
  try simp only [go_sem] at lz4
  try simp only [go_sem] at xz4
  try simp only [go_sem, n1, n2, n3, n4, z2, z3] at z4
  all_goals
  obtain ⟨y_5, z5, h⟩ := bd_some h
  have fz5 := Fs_68 z5
  try simp only [go_sem, z2, z3, z4] at fz5
  rcases it_some h with ⟨z6, h⟩ | ⟨z6, h⟩
  ·try simp only [go_sem, n1, n2, n3, n4, z2, z3, z4] at z6
   all_goals
   obtain rfl := so_some h
   refine ⟨0, fun L hL => ?_⟩
   simp only [go_sem, ir14, E_69_l1, R_69_l1, ir14_b0, ir14_k0, ir14_o0, ir14_r0, z2, z3, lz3, xz3, z4, lz4, xz4, fz5, z6]
  ·try simp only [go_sem, n1, n2, n3, n4, z2, z3, z4] at z6
   all_goals
   obtain rfl := so_some h
   refine ⟨0, fun L hL => ?_⟩
   simp only [go_sem, ir14, E_69_l1, R_69_l1, ir14_b0, ir14_k0, ir14_o0, ir14_r0, z2, z3, lz3, xz3, z4, lz4, xz4, fz5, z6]
 ·try simp only [go_sem, n1, n2, n3, n4] at z2
  all_goals
  obtain rfl := so_some h
  refine ⟨0, fun L hL => ?_⟩
  simp only [go_sem, ir14, E_69_l1, R_69_l1, ir14_b0, ir14_k0, ir14_o0, ir14_r0, z2]

theorem Fs_69 {a : List Star} {b : List Star} {y_ : Bool} (h : laws_eqStarS a b = some y_) : c_69.F [.sl 5 (List.map Star_av a), .sl 5 (List.map Star_av b)] = ⟨true, .bool y_, [.any, .any]⟩ := by
 refine mkF_E rfl ?_
 dsimp only [laws_eqStarS] at h
 rcases it_some h with ⟨z1, h⟩ | ⟨z1, h⟩
 ·try simp only [go_sem, n1, n2, n3, n4] at z1
  all_goals
  obtain rfl := so_some h
  refine ⟨0, fun L hL => ?_⟩
  simp only [go_sem, ir14, E_69_l1, R_69_l1, ir14_k0, ir14_o0, ir14_r0, z1]
 ·try simp only [go_sem, n1, n2, n3, n4] at z1
  all_goals
  obtain ⟨y_7, z7, h⟩ := bd_some h
  obtain ⟨Lz7, ez7⟩ := laws_eqStarS_l1_ex z7
  rcases y_7 with y_7a | y_7b
  ·dsimp only at h
   obtain rfl := so_some h
   refine ⟨Lz7, fun L hL => ?_⟩
   have ez7 := ez7 L (by omega)
   try simp only [go_sem, E_69_l1, R_69_l1, ir14_k0, ir14_o0, ir14_r0, z1] at ez7
   simp only [go_sem, ir14, E_69_l1, R_69_l1, ir14_k0, ir14_o0, ir14_r0, z1, ez7]
  ·dsimp only at h
   obtain rfl := so_some h
   refine ⟨Lz7, fun L hL => ?_⟩
   have ez7 := ez7 L (by omega)
   try simp only [go_sem, E_69_l1, R_69_l1, ir14_k0, ir14_o0, ir14_r0, z1] at ez7
   simp only [go_sem, ir14, E_69_l1, R_69_l1, ir14_k0, ir14_o0, ir14_r0, z1, ez7]


def ir40_v : List Nat := [0, 1, 2, 3, 4]
def ir40 : AFn := ⟨2, 5, .seq (.region false [ VO 2 2 (.box (.v 0)), VO 3 3 (.box (.v 1)), VO 4 4 (.mov (.c (.bool false)))]) (.seq (.test false [ PO 5 (.fldAddr 0 (.v 2)), PO 6 (.load false 1 (.s 0)), PO 7 (.fldAddr 0 (.v 3)), PO 8 (.load false 1 (.s 0)), PO 9 (.bin false .neq (.s 2) (.s 0))] (.s 0) (.seq (.region false [ VO 4 4 (.mov (.c (.bool false)))]) (.ret)) (.skip)) (.seq (.test false [ PO 10 (.fldAddr 1 (.v 2)), PO 11 (.load false 1 (.s 0)), PO 12 (.fldAddr 1 (.v 3)), PO 13 (.load false 1 (.s 0)), PO 14 (.bin false .neq (.s 2) (.s 0))] (.s 0) (.seq (.region false [ VO 4 4 (.mov (.c
 (.bool false)))]) (.ret)) (.skip)) (.seq (.region false [ VO 4 4 (.mov (.c (.bool true)))]) (.ret)))), [.t 4]⟩
noncomputable def t_70 : List (Nat × Ctr) := []
noncomputable def c_70 : Ctr := mkF t_70 ir40 [.bor, .bor]
theorem s_70 : Sound Try.prog 40 c_70 := mkF_sound _ rfl snd_nil (by kernel_rfl : chkFn Try.prog 40 ir40 ir40_v = true)
theorem M_70 : c_70.modes = [.bor, .bor] := rfl
theorem Fl_70 : c_70.flat = true := rfl
attribute [go_sem] M_70 Fl_70
theorem Fs_70 {a : Observer} {b : Observer} {y_ : Bool} (h : laws_eqObserver a b = some y_) : c_70.F [Observer_av a, Observer_av b] = ⟨true, .bool y_, [.any, .any]⟩ := by
 refine mkF_E rfl ?_
 dsimp only [laws_eqObserver] at h
 rcases it_some h with ⟨z1, h⟩ | ⟨z1, h⟩
 ·try simp only [go_sem, n1, n2, n3, n4] at z1
  all_goals
  obtain rfl := so_some h
  refine ⟨0, fun L hL => ?_⟩
  simp only [go_sem, ir40, z1]
 ·try simp only [go_sem, n1, n2, n3, n4] at z1
  all_goals
  rcases it_some h with ⟨z2, h⟩ | ⟨z2, h⟩
  ·try simp only [go_sem, n1, n2, n3, n4, z1] at z2
   all_goals
   obtain rfl := so_some h
   refine ⟨0, fun L hL => ?_⟩
   simp only [go_sem, ir40, z1, z2]
  ·try simp only [go_sem, n1, n2, n3, n4, z1] at z2
   all_goals
   obtain rfl := so_some h
   refine ⟨0, fun L hL => ?_⟩
   simp only [go_sem, ir40, z1, z2]


def ir15_b0 : IR := .seq (.test false [ PM 11 3, PM 12 0, PO 13 (.len false (.s 0)), PO 14 (.bin false .lss (.s 2) (.s 0))] (.s 0) (.skip) (.exit 0)) (.seq (.block 1 (.anyo 10 [ SO 0 17 (.mov (.v 0)), SO 1 18 (.mov (.v 3)), SO 2 19 (.ixAddr 2 (.s 0) (.s 1)), SO 3 20 (.load true 2 (.s 2)), SO 4 21 (.mov (.v 1)), SO 5 22 (.mov (.v 3)), SO 6 23 (.ixAddr 2 (.s 4) (.s 5)), SO 7 24 (.load true 2 (.s 6)), SO 8 25 (.callp 40 [(.s 3), (.s 7)]), SO 9 26 (.un .not (.s 8))] [] (.cond (.s 9) (.seq (.region false [ VO 2 4 (.mov (.c (.bool false)))]) (.ret)) (.skip)))) (.region false [ PM 15 3, PO 16 (.bin
 false .add (.s 0) (I6 1)), VS 3 5 0]))
def ir15_k0 : List Bool := [true, true, false, true]
def ir15_o0 : List Bool := [false, false, false, false]
def ir15_r0 : List Bool := [false, false, true, false]
def ir15_v : List Nat := [0, 1, 4, 5]
def ir15 : AFn := ⟨2, 4, .seq (.region false [ VO 2 4 (.mov (.c (.bool false)))]) (.seq (.test false [ PM 6 0, PO 7 (.len false (.s 0)), PM 8 1, PO 9 (.len false (.s 0)), PO 10 (.bin false .neq (.s 2) (.s 0))] (.s 0) (.seq (.region false [ VO 2 4 (.mov (.c (.bool false)))]) (.ret)) (.skip)) (.seq (.seq (.region false [ VO 3 5 (.mov (I6 0))]) (.block 0 (.loop ir15_k0 ir15_o0 ir15_r0 ir15_b0))) (.seq (.region false [ VO 2 4 (.mov (.c (.bool true)))]) (.ret)))), [.t 2]⟩
noncomputable def t_71 : List (Nat × Ctr) := [(40, c_70)]
theorem lk_71_40 : look t_71 40 = some c_70 := rfl
noncomputable def c_71 : Ctr := mkF t_71 ir15 [.bor, .bor]
theorem s_71 : Sound Try.prog 15 c_71 := mkF_sound _ rfl (snd_cons s_70 snd_nil) (by kernel_rfl : chkFn Try.prog 15 ir15 ir15_v = true)
theorem M_71 : c_71.modes = [.bor, .bor] := rfl
theorem Fl_71 : c_71.flat = true := rfl
attribute [go_sem] M_71 Fl_71
attribute [go_sem] lk_71_40
def E_71_l1 (a : List Observer) (b : List Observer) : Int → St
 | i => ⟨[.sl 2 (List.map Observer_av a), .sl 2 (List.map Observer_av b), .any, .int .i64 i], [], [], true⟩
def R_71_l1 (a : List Observer) (b : List Observer) : (Unit ⊕ Bool) → Res
 | .inl y => (.exit 0, ⟨[.any, .any, .any, .any], [], [], true⟩)
 | .inr y => (.ret, ⟨[.any, .any, .bool y, .any], [], [], true⟩)
theorem laws_eqObserverS_l1_ex {a : List Observer} {b : List Observer} {sgm_ : Int} {rho_ : Unit ⊕ Bool} (h : whileE (laws_eqObserverS_l1 a b) sgm_ = some rho_) : ∃ L0, ∀ L, L0 ≤ L → iter (exec (look t_71) L ir15_b0) ir15_k0 ir15_o0 ir15_r0 L (E_71_l1 a b sgm_) = R_71_l1 a b rho_ := by
 refine loop_ex (E := E_71_l1 a b) (R := R_71_l1 a b) (fun y => by first | (intro c; cases c) | (rcases y with y | y <;> (intro c; cases c)) | (rcases y with y | y | y <;> (intro c; cases c))) ?_ h
 clear h
 intro i o_ h
 dsimp only [laws_eqObserverS_l1] at h
 rcases it_some h with ⟨z2, h⟩ | ⟨z2, h⟩
 ·try simp only [go_sem, n1, n2, n3, n4] at z2
  all_goals
  obtain ⟨z3, h⟩ := ck_some h
  have lz3 := ix_lt z3
  have xz3 := getD_mapD Observer_av a lz3
  try simp only [go_sem] at lz3
  try simp only [go_sem] at xz3
  try simp only [go_sem, n1, n2, n3, n4, z2] at z3
  all_goals
  obtain ⟨z4, h⟩ := ck_some h
  have lz4 := ix_lt z4
  have xz4 := getD_mapD Observer_av b lz4
  try simp only [go_sem] at lz4
  try simp only [go_sem] at xz4
  try simp only [go_sem, n1, n2, n3, n4, z2, z3] at z4
  all_goals
  obtain ⟨y_5, z5, h⟩ := bd_some h
  have fz5 := Fs_70 z5
  try simp only [go_sem, z2, z3, z4] at fz5
  rcases it_some h with ⟨z6, h⟩ | ⟨z6, h⟩
  ·try simp only [go_sem, n1, n2, n3, n4, z2, z3, z4] at z6
   all_goals
   obtain rfl := so_some h
   refine ⟨0, fun L hL => ?_⟩
   simp only [go_sem, ir15, E_71_l1, R_71_l1, ir15_b0, ir15_k0, ir15_o0, ir15_r0, z2, z3, lz3, xz3, z4, lz4, xz4, fz5, z6]
  ·try simp only [go_sem, n1, n2, n3, n4, z2, z3, z4] at z6
   all_goals
   obtain rfl := so_some h
   refine ⟨0, fun L hL => ?_⟩
   simp only [go_sem, ir15, E_71_l1, R_71_l1, ir15_b0, ir15_k0, ir15_o0, ir15_r0, z2, z3, lz3, xz3, z4, lz4, xz4, fz5, z6]
 ·try simp only [go_sem, n1, n2, n3, n4] at z2
  all_goals
  obtain rfl := so_some h
  refine ⟨0, fun L hL => ?_⟩
  simp only [go_sem, ir15, E_71_l1, R_71_l1, ir15_b0, ir15_k0, ir15_o0, ir15_r0, z2]

theorem Fs_71 {a : List Observer} {b : List Observer} {y_ : Bool} (h : laws_eqObserverS a b = some y_) : c_71.F [.sl 2 (List.map Observer_av a), .sl 2 (List.map Observer_av b)] = ⟨true, .bool y_, [.any, .any]⟩ := by
 refine mkF_E rfl ?_
 dsimp only [laws_eqObserverS] at h
 rcases it_some h with ⟨z1, h⟩ | ⟨z1, h⟩
 ·try simp only [go_sem, n1, n2, n3, n4] at z1
  all_goals
  obtain rfl := so_some h
  refine ⟨0, fun L hL => ?_⟩
  simp only [go_sem, ir15, E_71_l1, R_71_l1, ir15_k0, ir15_o0, ir15_r0, z1]
 ·try simp only [go_sem, n1, n2, n3, n4] at z1
  all_goals
  obtain ⟨y_7, z7, h⟩ := bd_some h
  obtain ⟨Lz7, ez7⟩ := laws_eqObserverS_l1_ex z7
  rcases y_7 with y_7a | y_7b
  ·dsimp only at h
   obtain rfl := so_some h
   refine ⟨Lz7, fun L hL => ?_⟩
   have ez7 := ez7 L (by omega)
   try simp only [go_sem, E_71_l1, R_71_l1, ir15_k0, ir15_o0, ir15_r0, z1] at ez7
   simp only [go_sem, ir15, E_71_l1, R_71_l1, ir15_k0, ir15_o0, ir15_r0, z1, ez7]
  ·dsimp only at h
   obtain rfl := so_some h
   refine ⟨Lz7, fun L hL => ?_⟩
   have ez7 := ez7 L (by omega)
   try simp only [go_sem, E_71_l1, R_71_l1, ir15_k0, ir15_o0, ir15_r0, z1] at ez7
   simp only [go_sem, ir15, E_71_l1, R_71_l1, ir15_k0, ir15_o0, ir15_r0, z1, ez7]


def ir41_b0 : IR := .seq (.test false [ PM 6 0, PO 7 (.bin false .gtr (.s 0) (I6 0))] (.s 0) (.skip) (.exit 0)) (.block 1 (.seq (.region false [ PM 8 0, PO 9 (.bin false .rem (.s 0) (I6 10)), PO 10 (.bin false .add (I6 48) (.s 0)), PO 11 (.conv .u8 (.s 0)), PO 12 (.mkSl 1 (.int .u8 (0)) 1 [(0, (.s 0))]), PO 13 (.b2s (.s 0)), PM 14 2, PO 15 (.bin false .add (.s 1) (.s 0)), VS 2 3 0]) (.region false [ PM 16 0, PO 17 (.bin false .quo (.s 0) (I6 10)), VS 0 0 0])))
def ir41_k0 : List Bool := [true, false, true]
def ir41_o0 : List Bool := [false, false, true]
def ir41_r0 : List Bool := [false, true, false]
def ir41_v : List Nat := [0, 2, 3]
def ir41 : AFn := ⟨1, 3, .seq (.region false [ VO 1 2 (.mov (.c (.str [])))]) (.seq (.test false [ PM 4 0, PO 5 (.bin false .leq (.s 0) (I6 0))] (.s 0) (.seq (.region false [ VO 1 2 (.mov (.c (.str [109, 48])))]) (.ret)) (.skip)) (.seq (.region false [ VO 2 3 (.mov (.c (.str [])))]) (.seq (.block 0 (.loop ir41_k0 ir41_o0 ir41_r0 ir41_b0)) (.seq (.region false [ PM 18 2, PO 19 (.bin false .add (.c (.str [109])) (.s 0)), VS 1 2 0]) (.ret))))), [.t 1]⟩
noncomputable def t_72 : List (Nat × Ctr) := []
noncomputable def c_72 : Ctr := mkF t_72 ir41 [.bor]
theorem s_72 : Sound Try.prog 41 c_72 := mkF_sound _ rfl snd_nil (by kernel_rfl : chkFn Try.prog 41 ir41 ir41_v = true)
theorem M_72 : c_72.modes = [.bor] := rfl
theorem Fl_72 : c_72.flat = true := rfl
attribute [go_sem] M_72 Fl_72
def E_72_l1  : (Int × (List UInt8)) → St
 | (k, out) => ⟨[.int .i64 k, .any, .str out], [], [], true⟩
def R_72_l1  (y : (List UInt8)) : Res := (.exit 0, ⟨[.any, .any, .str y], [], [], true⟩)
theorem laws_markText_l1_ex  {sgm_ : Int × (List UInt8)} {rho_ : (List UInt8)} (h : whileE (laws_markText_l1) sgm_ = some rho_) : ∃ L0, ∀ L, L0 ≤ L → iter (exec (look t_72) L ir41_b0) ir41_k0 ir41_o0 ir41_r0 L (E_72_l1 sgm_) = R_72_l1 rho_ := by
 refine loop_ex (E := E_72_l1) (R := R_72_l1) (fun y => by first | (intro c; cases c) | (rcases y with y | y <;> (intro c; cases c)) | (rcases y with y | y | y <;> (intro c; cases c))) ?_ h
 clear h
 rintro ⟨k, out⟩ o_ h
 dsimp only [laws_markText_l1] at h
 rcases it_some h with ⟨z2, h⟩ | ⟨z2, h⟩
 ·try simp only [go_sem, n1, n2, n3, n4] at z2
  all_goals
  obtain ⟨z3, h⟩ := ck_some h
  try simp only [go_sem, n1, n2, n3, n4, z2] at z3
  all_goals
  obtain ⟨z4, h⟩ := ck_some h
  try simp only [go_sem, n1, n2, n3, n4, z2, z3] at z4
  all_goals
  obtain rfl := so_some h
  refine ⟨0, fun L hL => ?_⟩
  simp only [go_sem, ir41, E_72_l1, R_72_l1, ir41_b0, ir41_k0, ir41_o0, ir41_r0, z2, z3, z4]
 ·try simp only [go_sem, n1, n2, n3, n4] at z2
  all_goals
  obtain rfl := so_some h
  refine ⟨0, fun L hL => ?_⟩
  simp only [go_sem, ir41, E_72_l1, R_72_l1, ir41_b0, ir41_k0, ir41_o0, ir41_r0, z2]

theorem Fs_72 {k : Int} {y_ : (List UInt8)} (h : laws_markText k = some y_) : c_72.F [.int .i64 k] = ⟨true, .str y_, [.any]⟩ := by
 refine mkF_E rfl ?_
 dsimp only [laws_markText] at h
 rcases it_some h with ⟨z1, h⟩ | ⟨z1, h⟩
 ·try simp only [go_sem, n1, n2, n3, n4] at z1
  all_goals
  obtain rfl := so_some h
  refine ⟨0, fun L hL => ?_⟩
  simp only [go_sem, ir41, E_72_l1, R_72_l1, ir41_k0, ir41_o0, ir41_r0, z1]
 ·try simp only [go_sem, n1, n2, n3, n4] at z1
  all_goals
  obtain ⟨y_5, z5, h⟩ := bd_some h
  obtain ⟨Lz5, ez5⟩ := laws_markText_l1_ex z5
  obtain ⟨z6, h⟩ := ck_some h
  try simp only [go_sem, n1, n2, n3, n4, z1] at z6
  all_goals
  obtain rfl := so_some h
  refine ⟨Lz5, fun L hL => ?_⟩
  have ez5 := ez5 L (by omega)
  try simp only [go_sem, E_72_l1, R_72_l1, ir41_k0, ir41_o0, ir41_r0, z1, z6] at ez5
  simp only [go_sem, ir41, E_72_l1, R_72_l1, ir41_k0, ir41_o0, ir41_r0, z1, z6, ez5]


def ir16_b0 : IR := .seq (.test false [ PM 6 3, PM 7 0, PO 8 (.len false (.s 0)), PO 9 (.bin false .lss (.s 2) (.s 0))] (.s 0) (.skip) (.exit 0)) (.seq (.block 1 (.seq (.region false [ PM 12 0, PM 13 3, PM 14 1, PO 15 (.ixAddr 5 (.s 2) (.s 1)), PO 16 (.fldAddr 0 (.s 0)), ⟨.no, 0, none, .store 1 (.s 0) (.s 2)⟩]) (.seq (.region false [ PM 17 1, PO 18 (.bin false .add (.s 0) (I6 1)), VS 1 1 0]) (.seq (.region false [ PM 19 0, PM 20 3, PM 21 1, PO 22 (.call 41 [(.s 0)]), PO 23 (.ixAddr 5 (.s 3) (.s 2)), PO 24 (.fldAddr 1 (.s 0)), ⟨.no, 0, none, .store 1 (.s 0) (.s 2)⟩]) (.seq (.region false [ PM 25
 1, PO 26 (.bin false .add (.s 0) (I6 1)), VS 1 1 0]) (.seq (.region false [ PM 27 0, PM 28 3, PM 29 1, PO 30 (.call 41 [(.s 0)]), PO 31 (.ixAddr 5 (.s 3) (.s 2)), PO 32 (.fldAddr 2 (.s 0)), ⟨.no, 0, none, .store 1 (.s 0) (.s 2)⟩]) (.seq (.region false [ PM 33 1, PO 34 (.bin false .add (.s 0) (I6 1)), VS 1 1 0]) (.seq (.region false [ PM 35 0, PM 36 3, PM 37 1, PO 38 (.ixAddr 5 (.s 2) (.s 1)), PO 39 (.fldAddr 3 (.s 0)), ⟨.no, 0, none, .store 1 (.s 0) (.s 2)⟩]) (.seq (.region false [ PM 40 1, PO 41 (.bin false .add (.s 0) (I6 1)), VS 1 1 0]) (.seq (.region false [ PM 42 0, PM 43 3, PM 44 1, PO
 45 (.bin false .rem (.s 0) (I6 3)), PO 46 (.bin false .eql (.s 0) (I6 0)), PO 47 (.ixAddr 5 (.s 4) (.s 3)), PO 48 (.fldAddr 4 (.s 0)), ⟨.no, 0, none, .store 1 (.s 0) (.s 2)⟩]) (.region false [ PM 49 1, PO 50 (.bin false .add (.s 0) (I6 1)), VS 1 1 0]))))))))))) (.region false [ PM 10 3, PO 11 (.bin false .add (.s 0) (I6 1)), VS 3 5 0]))
def ir16_k0 : List Bool := [true, true, false, true]
def ir16_o0 : List Bool := [true, true, false, false]
def ir16_r0 : List Bool := [true, false, true, false]
def ir16_v : List Nat := [0, 1, 4, 5]
def ir16 : AFn := ⟨2, 4, .seq (.region false [ VO 2 4 (.mov (I6 0))]) (.seq (.seq (.region false [ VO 3 5 (.mov (I6 0))]) (.block 0 (.loop ir16_k0 ir16_o0 ir16_r0 ir16_b0))) (.seq (.region false [ PM 51 1, VS 2 4 0]) (.ret))), [.t 2]⟩
noncomputable def t_73 : List (Nat × Ctr) := [(41, c_72)]
theorem lk_73_41 : look t_73 41 = some c_72 := rfl
noncomputable def c_73 : Ctr := mkN t_73 ir16 [.io, .bor]
theorem s_73 : Sound Try.prog 16 c_73 := mkN_sound _ (snd_cons s_72 snd_nil) (by kernel_rfl : chkFn Try.prog 16 ir16 ir16_v = true)
theorem M_73 : c_73.modes = [.io, .bor] := rfl
theorem Fl_73 : c_73.flat = false := rfl
attribute [go_sem] M_73 Fl_73
attribute [go_sem] lk_73_41
def E_73_l1  : ((List Estimate) × Int × Int) → St
 | (a, k, i) => ⟨[.own 31, .int .i64 k, .any, .int .i64 i], [], [(31, ⟨5, List.map Estimate_av a⟩)], true⟩
def R_73_l1  (y : (List Estimate) × Int) : Res := (.exit 0, ⟨[.own 31, .int .i64 y.2, .any, .any], [], [(31, ⟨5, List.map Estimate_av y.1⟩)], true⟩)
theorem laws_markEstimateS_l1_ex  {sgm_ : (List Estimate) × Int × Int} {rho_ : (List Estimate) × Int} (h : whileE (laws_markEstimateS_l1) sgm_ = some rho_) : ∃ L0, ∀ L, L0 ≤ L → iter (exec (look t_73) L ir16_b0) ir16_k0 ir16_o0 ir16_r0 L (E_73_l1 sgm_) = R_73_l1 rho_ := by
 refine loop_ex (E := E_73_l1) (R := R_73_l1) (fun y => by first | (intro c; cases c) | (rcases y with y | y <;> (intro c; cases c)) | (rcases y with y | y | y <;> (intro c; cases c))) ?_ h
 clear h
 rintro ⟨a, k, i⟩ o_ h
 dsimp only [laws_markEstimateS_l1] at h
 rcases it_some h with ⟨z1, h⟩ | ⟨z1, h⟩
 ·try simp only [go_sem, n1, n2, n3, n4] at z1
  all_goals
  obtain ⟨z2, h⟩ := ck_some h
  have lz2 := ix_lt z2
  have xz2 := getD_mapD Estimate_av a lz2
  try simp only [go_sem] at lz2
  try simp only [go_sem] at xz2
  try simp only [go_sem, n1, n2, n3, n4, z1] at z2
  all_goals
  obtain ⟨y_3, z3, h⟩ := bd_some h
  have fz3 := Fs_72 z3
  try simp only [go_sem, z1, z2] at fz3
  obtain ⟨y_4, z4, h⟩ := bd_some h
  have fz4 := Fs_72 z4
  try simp only [go_sem, z1, z2] at fz4
  obtain ⟨z5, h⟩ := ck_some h
  try simp only [go_sem, n1, n2, n3, n4, z1, z2] at z5
  all_goals
  obtain rfl := so_some h
  refine ⟨0, fun L hL => ?_⟩
  simp only [go_sem, ir16, E_73_l1, R_73_l1, ir16_b0, ir16_k0, ir16_o0, ir16_r0, z1, z2, lz2, xz2, fz3, fz4, z5]
 ·try simp only [go_sem, n1, n2, n3, n4] at z1
  all_goals
  obtain rfl := so_some h
  refine ⟨0, fun L hL => ?_⟩
  simp only [go_sem, ir16, E_73_l1, R_73_l1, ir16_b0, ir16_k0, ir16_o0, ir16_r0, z1]

theorem Fs_73 {a : List Estimate} {k : Int} {y_ : Int × (List Estimate)} (h : laws_markEstimateS a k = some y_) : c_73.F [.fresh 5 (List.map Estimate_av a), .int .i64 k] = ⟨true, .int .i64 y_.1, [.fresh 5 (List.map Estimate_av y_.2), .any]⟩ := by
 refine mkN_E ?_
 dsimp only [laws_markEstimateS] at h
 obtain ⟨y_6, z6, h⟩ := bd_some h
 obtain ⟨Lz6, ez6⟩ := laws_markEstimateS_l1_ex z6
 obtain ⟨z7, h⟩ := ck_some h
 try simp only [go_sem, n1, n2, n3, n4] at z7
 all_goals
 obtain rfl := so_some h
 refine ⟨Lz6, fun L hL => ?_⟩
 have ez6 := ez6 L (by omega)
 try simp only [go_sem, E_73_l1, R_73_l1, ir16_k0, ir16_o0, ir16_r0, z7] at ez6
 simp only [go_sem, ir16, E_73_l1, R_73_l1, ir16_k0, ir16_o0, ir16_r0, z7, ez6]


def ir17_b0 : IR := .seq (.test false [ PM 6 3, PM 7 0, PO 8 (.len false (.s 0)), PO 9 (.bin false .lss (.s 2) (.s 0))] (.s 0) (.skip) (.exit 0)) (.seq (.block 1 (.seq (.region false [ PM 12 0, PM 13 3, PM 14 1, PO 15 (.call 41 [(.s 0)]), PO 16 (.ixAddr 5 (.s 3) (.s 2)), PO 17 (.fldAddr 0 (.s 0)), ⟨.no, 0, none, .store 1 (.s 0) (.s 2)⟩]) (.seq (.region false [ PM 18 1, PO 19 (.bin false .add (.s 0) (I6 1)), VS 1 1 0]) (.seq (.region false [ PM 20 0, PM 21 3, PM 22 1, PO 23 (.ixAddr 5 (.s 2) (.s 1)), PO 24 (.fldAddr 1 (.s 0)), ⟨.no, 0, none, .store 1 (.s 0) (.s 2)⟩]) (.seq (.region false [ PM 25
 1, PO 26 (.bin false .add (.s 0) (I6 1)), VS 1 1 0]) (.seq (.region false [ PM 27 0, PM 28 3, PM 29 1, PO 30 (.ixAddr 5 (.s 2) (.s 1)), PO 31 (.fldAddr 2 (.s 0)), ⟨.no, 0, none, .store 1 (.s 0) (.s 2)⟩]) (.seq (.region false [ PM 32 1, PO 33 (.bin false .add (.s 0) (I6 1)), VS 1 1 0]) (.seq (.region false [ PM 34 0, PM 35 3, PM 36 1, PO 37 (.ixAddr 5 (.s 2) (.s 1)), PO 38 (.fldAddr 3 (.s 0)), ⟨.no, 0, none, .store 1 (.s 0) (.s 2)⟩]) (.seq (.region false [ PM 39 1, PO 40 (.bin false .add (.s 0) (I6 1)), VS 1 1 0]) (.seq (.region false [ PM 41 0, PM 42 3, PM 43 1, PO 44 (.ixAddr 5 (.s 2) (.s
 1)), PO 45 (.fldAddr 4 (.s 0)), ⟨.no, 0, none, .store 1 (.s 0) (.s 2)⟩]) (.region false [ PM 46 1, PO 47 (.bin false .add (.s 0) (I6 1)), VS 1 1 0]))))))))))) (.region false [ PM 10 3, PO 11 (.bin false .add (.s 0) (I6 1)), VS 3 5 0]))
def ir17_k0 : List Bool := [true, true, false, true]
def ir17_o0 : List Bool := [true, true, false, false]
def ir17_r0 : List Bool := [true, false, true, false]
def ir17_v : List Nat := [0, 1, 4, 5]
def ir17 : AFn := ⟨2, 4, .seq (.region false [ VO 2 4 (.mov (I6 0))]) (.seq (.seq (.region false [ VO 3 5 (.mov (I6 0))]) (.block 0 (.loop ir17_k0 ir17_o0 ir17_r0 ir17_b0))) (.seq (.region false [ PM 48 1, VS 2 4 0]) (.ret))), [.t 2]⟩
noncomputable def t_74 : List (Nat × Ctr) := [(41, c_72)]
theorem lk_74_41 : look t_74 41 = some c_72 := rfl
noncomputable def c_74 : Ctr := mkN t_74 ir17 [.io, .bor]
theorem s_74 : Sound Try.prog 17 c_74 := mkN_sound _ (snd_cons s_72 snd_nil) (by kernel_rfl : chkFn Try.prog 17 ir17 ir17_v = true)
theorem M_74 : c_74.modes = [.io, .bor] := rfl
theorem Fl_74 : c_74.flat = false := rfl
attribute [go_sem] M_74 Fl_74
attribute [go_sem] lk_74_41
def E_74_l1  : ((List Star) × Int × Int) → St
 | (a, k, i) => ⟨[.own 31, .int .i64 k, .any, .int .i64 i], [], [(31, ⟨5, List.map Star_av a⟩)], true⟩
def R_74_l1  (y : (List Star) × Int) : Res := (.exit 0, ⟨[.own 31, .int .i64 y.2, .any, .any], [], [(31, ⟨5, List.map Star_av y.1⟩)], true⟩)
theorem laws_markStarS_l1_ex  {sgm_ : (List Star) × Int × Int} {rho_ : (List Star) × Int} (h : whileE (laws_markStarS_l1) sgm_ = some rho_) : ∃ L0, ∀ L, L0 ≤ L → iter (exec (look t_74) L ir17_b0) ir17_k0 ir17_o0 ir17_r0 L (E_74_l1 sgm_) = R_74_l1 rho_ := by
 refine loop_ex (E := E_74_l1) (R := R_74_l1) (fun y => by first | (intro c; cases c) | (rcases y with y | y <;> (intro c; cases c)) | (rcases y with y | y | y <;> (intro c; cases c))) ?_ h
 clear h
 rintro ⟨a, k, i⟩ o_ h
 dsimp only [laws_markStarS_l1] at h
 rcases it_some h with ⟨z1, h⟩ | ⟨z1, h⟩
 ·try simp only [go_sem, n1, n2, n3, n4] at z1
  all_goals
  obtain ⟨y_2, z2, h⟩ := bd_some h
  have fz2 := Fs_72 z2
  try simp only [go_sem, z1] at fz2
  obtain ⟨z3, h⟩ := ck_some h
  have lz3 := ix_lt z3
  have xz3 := getD_mapD Star_av a lz3
  try simp only [go_sem] at lz3
  try simp only [go_sem] at xz3
  try simp only [go_sem, n1, n2, n3, n4, z1] at z3
  all_goals
  obtain rfl := so_some h
  refine ⟨0, fun L hL => ?_⟩
  simp only [go_sem, ir17, E_74_l1, R_74_l1, ir17_b0, ir17_k0, ir17_o0, ir17_r0, z1, fz2, z3, lz3, xz3]
 ·try simp only [go_sem, n1, n2, n3, n4] at z1
  all_goals
  obtain rfl := so_some h
  refine ⟨0, fun L hL => ?_⟩
  simp only [go_sem, ir17, E_74_l1, R_74_l1, ir17_b0, ir17_k0, ir17_o0, ir17_r0, z1]

theorem Fs_74 {a : List Star} {k : Int} {y_ : Int × (List Star)} (h : laws_markStarS a k = some y_) : c_74.F [.fresh 5 (List.map Star_av a), .int .i64 k] = ⟨true, .int .i64 y_.1, [.fresh 5 (List.map Star_av y_.2), .any]⟩ := by
 refine mkN_E ?_
 dsimp only [laws_markStarS] at h
 obtain ⟨y_4, z4, h⟩ := bd_some h
 obtain ⟨Lz4, ez4⟩ := laws_markStarS_l1_ex z4
 obtain ⟨z5, h⟩ := ck_some h
 try simp only [go_sem, n1, n2, n3, n4] at z5
 all_goals
 obtain rfl := so_some h
 refine ⟨Lz4, fun L hL => ?_⟩
 have ez4 := ez4 L (by omega)
 try simp only [go_sem, E_74_l1, R_74_l1, ir17_k0, ir17_o0, ir17_r0, z5] at ez4
 simp only [go_sem, ir17, E_74_l1, R_74_l1, ir17_k0, ir17_o0, ir17_r0, z5, ez4]


def ir18_b0 : IR := .seq (.test false [ PM 6 3, PM 7 0, PO 8 (.len false (.s 0)), PO 9 (.bin false .lss (.s 2) (.s 0))] (.s 0) (.skip) (.exit 0)) (.seq (.block 1 (.seq (.region false [ PM 12 0, PM 13 3, PM 14 1, PO 15 (.call 41 [(.s 0)]), PO 16 (.ixAddr 2 (.s 3) (.s 2)), PO 17 (.fldAddr 0 (.s 0)), ⟨.no, 0, none, .store 1 (.s 0) (.s 2)⟩]) (.seq (.region false [ PM 18 1, PO 19 (.bin false .add (.s 0) (I6 1)), VS 1 1 0]) (.seq (.region false [ PM 20 0, PM 21 3, PM 22 1, PO 23 (.ixAddr 2 (.s 2) (.s 1)), PO 24 (.fldAddr 1 (.s 0)), ⟨.no, 0, none, .store 1 (.s 0) (.s 2)⟩]) (.region false [ PM 25 1, PO
 26 (.bin false .add (.s 0) (I6 1)), VS 1 1 0]))))) (.region false [ PM 10 3, PO 11 (.bin false .add (.s 0) (I6 1)), VS 3 5 0]))
def ir18_k0 : List Bool := [true, true, false, true]
def ir18_o0 : List Bool := [true, true, false, false]
def ir18_r0 : List Bool := [true, false, true, false]
def ir18_v : List Nat := [0, 1, 4, 5]
def ir18 : AFn := ⟨2, 4, .seq (.region false [ VO 2 4 (.mov (I6 0))]) (.seq (.seq (.region false [ VO 3 5 (.mov (I6 0))]) (.block 0 (.loop ir18_k0 ir18_o0 ir18_r0 ir18_b0))) (.seq (.region false [ PM 27 1, VS 2 4 0]) (.ret))), [.t 2]⟩
noncomputable def t_75 : List (Nat × Ctr) := [(41, c_72)]
theorem lk_75_41 : look t_75 41 = some c_72 := rfl
noncomputable def c_75 : Ctr := mkN t_75 ir18 [.io, .bor]
theorem s_75 : Sound Try.prog 18 c_75 := mkN_sound _ (snd_cons s_72 snd_nil) (by kernel_rfl : chkFn Try.prog 18 ir18 ir18_v = true)
theorem M_75 : c_75.modes = [.io, .bor] := rfl
theorem Fl_75 : c_75.flat = false := rfl
attribute [go_sem] M_75 Fl_75
attribute [go_sem] lk_75_41
def E_75_l1  : ((List Observer) × Int × Int) → St
 | (a, k, i) => ⟨[.own 31, .int .i64 k, .any, .int .i64 i], [], [(31, ⟨2, List.map Observer_av a⟩)], true⟩
def R_75_l1  (y : (List Observer) × Int) : Res := (.exit 0, ⟨[.own 31, .int .i64 y.2, .any, .any], [], [(31, ⟨2, List.map Observer_av y.1⟩)], true⟩)
theorem laws_markObserverS_l1_ex  {sgm_ : (List Observer) × Int × Int} {rho_ : (List Observer) × Int} (h : whileE (laws_markObserverS_l1) sgm_ = some rho_) : ∃ L0, ∀ L, L0 ≤ L → iter (exec (look t_75) L ir18_b0) ir18_k0 ir18_o0 ir18_r0 L (E_75_l1 sgm_) = R_75_l1 rho_ := by
 refine loop_ex (E := E_75_l1) (R := R_75_l1) (fun y => by first | (intro c; cases c) | (rcases y with y | y <;> (intro c; cases c)) | (rcases y with y | y | y <;> (intro c; cases c))) ?_ h
 clear h
 rintro ⟨a, k, i⟩ o_ h
 dsimp only [laws_markObserverS_l1] at h
 rcases it_some h with ⟨z1, h⟩ | ⟨z1, h⟩
 ·try simp only [go_sem, n1, n2, n3, n4] at z1
  all_goals
  obtain ⟨y_2, z2, h⟩ := bd_some h
  have fz2 := Fs_72 z2
  try simp only [go_sem, z1] at fz2
  obtain ⟨z3, h⟩ := ck_some h
  have lz3 := ix_lt z3
  have xz3 := getD_mapD Observer_av a lz3
  try simp only [go_sem] at lz3
  try simp only [go_sem] at xz3
  try simp only [go_sem, n1, n2, n3, n4, z1] at z3
  all_goals
  obtain rfl := so_some h
  refine ⟨0, fun L hL => ?_⟩
  simp only [go_sem, ir18, E_75_l1, R_75_l1, ir18_b0, ir18_k0, ir18_o0, ir18_r0, z1, fz2, z3, lz3, xz3]
 ·try simp only [go_sem, n1, n2, n3, n4] at z1
  all_goals
  obtain rfl := so_some h
  refine ⟨0, fun L hL => ?_⟩
  simp only [go_sem, ir18, E_75_l1, R_75_l1, ir18_b0, ir18_k0, ir18_o0, ir18_r0, z1]

theorem Fs_75 {a : List Observer} {k : Int} {y_ : Int × (List Observer)} (h : laws_markObserverS a k = some y_) : c_75.F [.fresh 2 (List.map Observer_av a), .int .i64 k] = ⟨true, .int .i64 y_.1, [.fresh 2 (List.map Observer_av y_.2), .any]⟩ := by
 refine mkN_E ?_
 dsimp only [laws_markObserverS] at h
 obtain ⟨y_4, z4, h⟩ := bd_some h
 obtain ⟨Lz4, ez4⟩ := laws_markObserverS_l1_ex z4
 obtain ⟨z5, h⟩ := ck_some h
 try simp only [go_sem, n1, n2, n3, n4] at z5
 all_goals
 obtain rfl := so_some h
 refine ⟨Lz4, fun L hL => ?_⟩
 have ez4 := ez4 L (by omega)
 try simp only [go_sem, E_75_l1, R_75_l1, ir18_k0, ir18_o0, ir18_r0, z5] at ez4
 simp only [go_sem, ir18, E_75_l1, R_75_l1, ir18_k0, ir18_o0, ir18_r0, z5, ez4]


def ir19_b0 : IR := .seq (.test false [ PM 6 3, PM 7 0, PO 8 (.len false (.s 0)), PO 9 (.bin false .lss (.s 2) (.s 0))] (.s 0) (.skip) (.exit 0)) (.seq (.block 1 (.seq (.region false [ PM 12 0, PM 13 3, PM 14 1, PO 15 (.ixAddr 2 (.s 2) (.s 1)), PO 16 (.fldAddr 0 (.s 0)), ⟨.no, 0, none, .store 1 (.s 0) (.s 2)⟩]) (.seq (.region false [ PM 17 1, PO 18 (.bin false .add (.s 0) (I6 1)), VS 1 1 0]) (.seq (.region false [ PM 19 0, PM 20 3, PM 21 1, PO 22 (.ixAddr 2 (.s 2) (.s 1)), PO 23 (.fldAddr 1 (.s 0)), ⟨.no, 0, none, .store 1 (.s 0) (.s 2)⟩]) (.region false [ PM 24 1, PO 25 (.bin false .add (.s 0)
 (I6 1)), VS 1 1 0]))))) (.region false [ PM 10 3, PO 11 (.bin false .add (.s 0) (I6 1)), VS 3 5 0]))
def ir19_k0 : List Bool := [true, true, false, true]
def ir19_o0 : List Bool := [true, true, false, false]
def ir19_r0 : List Bool := [true, false, true, false]
def ir19_v : List Nat := [0, 1, 4, 5]
def ir19 : AFn := ⟨2, 4, .seq (.region false [ VO 2 4 (.mov (I6 0))]) (.seq (.seq (.region false [ VO 3 5 (.mov (I6 0))]) (.block 0 (.loop ir19_k0 ir19_o0 ir19_r0 ir19_b0))) (.seq (.region false [ PM 26 1, VS 2 4 0]) (.ret))), [.t 2]⟩
noncomputable def t_76 : List (Nat × Ctr) := []
noncomputable def c_76 : Ctr := mkN t_76 ir19 [.io, .bor]
theorem s_76 : Sound Try.prog 19 c_76 := mkN_sound _ snd_nil (by kernel_rfl : chkFn Try.prog 19 ir19 ir19_v = true)
theorem M_76 : c_76.modes = [.io, .bor] := rfl
theorem Fl_76 : c_76.flat = false := rfl
attribute [go_sem] M_76 Fl_76
def E_76_l1  : ((List Fault) × Int × Int) → St
 | (a, k, i) => ⟨[.own 31, .int .i64 k, .any, .int .i64 i], [], [(31, ⟨2, List.map Fault_av a⟩)], true⟩
def R_76_l1  (y : (List Fault) × Int) : Res := (.exit 0, ⟨[.own 31, .int .i64 y.2, .any, .any], [], [(31, ⟨2, List.map Fault_av y.1⟩)], true⟩)
theorem laws_markFaultS_l1_ex  {sgm_ : (List Fault) × Int × Int} {rho_ : (List Fault) × Int} (h : whileE (laws_markFaultS_l1) sgm_ = some rho_) : ∃ L0, ∀ L, L0 ≤ L → iter (exec (look t_76) L ir19_b0) ir19_k0 ir19_o0 ir19_r0 L (E_76_l1 sgm_) = R_76_l1 rho_ := by
 refine loop_ex (E := E_76_l1) (R := R_76_l1) (fun y => by first | (intro c; cases c) | (rcases y with y | y <;> (intro c; cases c)) | (rcases y with y | y | y <;> (intro c; cases c))) ?_ h
 clear h
 rintro ⟨a, k, i⟩ o_ h
 dsimp only [laws_markFaultS_l1] at h
 rcases it_some h with ⟨z1, h⟩ | ⟨z1, h⟩
 ·try simp only [go_sem, n1, n2, n3, n4] at z1
  all_goals
  obtain ⟨z2, h⟩ := ck_some h
  have lz2 := ix_lt z2
  have xz2 := getD_mapD Fault_av a lz2
  try simp only [go_sem] at lz2
  try simp only [go_sem] at xz2
  try simp only [go_sem, n1, n2, n3, n4, z1] at z2
  all_goals
  obtain rfl := so_some h
  refine ⟨0, fun L hL => ?_⟩
  simp only [go_sem, ir19, E_76_l1, R_76_l1, ir19_b0, ir19_k0, ir19_o0, ir19_r0, z1, z2, lz2, xz2]
 ·try simp only [go_sem, n1, n2, n3, n4] at z1
  all_goals
  obtain rfl := so_some h
  refine ⟨0, fun L hL => ?_⟩
  simp only [go_sem, ir19, E_76_l1, R_76_l1, ir19_b0, ir19_k0, ir19_o0, ir19_r0, z1]

theorem Fs_76 {a : List Fault} {k : Int} {y_ : Int × (List Fault)} (h : laws_markFaultS a k = some y_) : c_76.F [.fresh 2 (List.map Fault_av a), .int .i64 k] = ⟨true, .int .i64 y_.1, [.fresh 2 (List.map Fault_av y_.2), .any]⟩ := by
 refine mkN_E ?_
 dsimp only [laws_markFaultS] at h
 obtain ⟨y_3, z3, h⟩ := bd_some h
 obtain ⟨Lz3, ez3⟩ := laws_markFaultS_l1_ex z3
 obtain ⟨z4, h⟩ := ck_some h
 try simp only [go_sem, n1, n2, n3, n4] at z4
 all_goals
 obtain rfl := so_some h
 refine ⟨Lz3, fun L hL => ?_⟩
 have ez3 := ez3 L (by omega)
 try simp only [go_sem, E_76_l1, R_76_l1, ir19_k0, ir19_o0, ir19_r0, z4] at ez3
 simp only [go_sem, ir19, E_76_l1, R_76_l1, ir19_k0, ir19_o0, ir19_r0, z4, ez3]


def ir20_b0 : IR := .seq (.test false [ PM 6 3, PM 7 0, PO 8 (.len false (.s 0)), PO 9 (.bin false .lss (.s 2) (.s 0))] (.s 0) (.skip) (.exit 0)) (.seq (.block 1 (.seq (.test false [ PM 12 0, PM 13 3, PO 14 (.ixAddr 2 (.s 1) (.s 0)), PO 15 (.fldAddr 0 (.s 0)), PO 16 (.load false 1 (.s 0)), PM 17 1, PO 18 (.bin false .neq (.s 1) (.s 0))] (.s 0) (.seq (.region false [ VO 2 4 (.mov (.c (.int .i64 (-1))))]) (.ret)) (.skip)) (.seq (.region false [ PM 19 1, PO 20 (.bin false .add (.s 0) (I6 1)), VS 1 1 0]) (.seq (.test false [ PM 21 0, PM 22 3, PO 23 (.ixAddr 2 (.s 1) (.s 0)), PO 24 (.fldAddr 1 (.s
 0)), PO 25 (.load false 1 (.s 0)), PM 26 1, PO 27 (.bin false .neq (.s 1) (.s 0))] (.s 0) (.seq (.region false [ VO 2 4 (.mov (.c (.int .i64 (-1))))]) (.ret)) (.skip)) (.region false [ PM 28 1, PO 29 (.bin false .add (.s 0) (I6 1)), VS 1 1 0]))))) (.region false [ PM 10 3, PO 11 (.bin false .add (.s 0) (I6 1)), VS 3 5 0]))
def ir20_k0 : List Bool := [true, true, false, true]
def ir20_o0 : List Bool := [false, true, false, false]
def ir20_r0 : List Bool := [false, false, true, false]
def ir20_v : List Nat := [0, 1, 4, 5]
def ir20 : AFn := ⟨2, 4, .seq (.region false [ VO 2 4 (.mov (I6 0))]) (.seq (.seq (.region false [ VO 3 5 (.mov (I6 0))]) (.block 0 (.loop ir20_k0 ir20_o0 ir20_r0 ir20_b0))) (.seq (.region false [ PM 30 1, VS 2 4 0]) (.ret))), [.t 2]⟩
noncomputable def t_77 : List (Nat × Ctr) := []
noncomputable def c_77 : Ctr := mkF t_77 ir20 [.bor, .bor]
theorem s_77 : Sound Try.prog 20 c_77 := mkF_sound _ rfl snd_nil (by kernel_rfl : chkFn Try.prog 20 ir20 ir20_v = true)
theorem M_77 : c_77.modes = [.bor, .bor] := rfl
theorem Fl_77 : c_77.flat = true := rfl
attribute [go_sem] M_77 Fl_77
def E_77_l1 (a : List Fault) : (Int × Int) → St
 | (k, i) => ⟨[.sl 2 (List.map Fault_av a), .int .i64 k, .any, .int .i64 i], [], [], true⟩
def R_77_l1 (a : List Fault) : (Int ⊕ Int) → Res
 | .inl y => (.exit 0, ⟨[.any, .int .i64 y, .any, .any], [], [], true⟩)
 | .inr y => (.ret, ⟨[.any, .any, .int .i64 y, .any], [], [], true⟩)
theorem laws_heldFaultS_l1_ex {a : List Fault} {sgm_ : Int × Int} {rho_ : Int ⊕ Int} (h : whileE (laws_heldFaultS_l1 a) sgm_ = some rho_) : ∃ L0, ∀ L, L0 ≤ L → iter (exec (look t_77) L ir20_b0) ir20_k0 ir20_o0 ir20_r0 L (E_77_l1 a sgm_) = R_77_l1 a rho_ := by
 refine loop_ex (E := E_77_l1 a) (R := R_77_l1 a) (fun y => by first | (intro c; cases c) | (rcases y with y | y <;> (intro c; cases c)) | (rcases y with y | y | y <;> (intro c; cases c))) ?_ h
 clear h
 rintro ⟨k, i⟩ o_ h
 dsimp only [laws_heldFaultS_l1] at h
 rcases it_some h with ⟨z1, h⟩ | ⟨z1, h⟩
 ·try simp only [go_sem, n1, n2, n3, n4] at z1
  all_goals
  obtain ⟨z2, h⟩ := ck_some h
  have lz2 := ix_lt z2
  have xz2 := getD_mapD Fault_av a lz2
  try simp only [go_sem] at lz2
  try simp only [go_sem] at xz2
  try simp only [go_sem, n1, n2, n3, n4, z1] at z2
  all_goals
  rcases it_some h with ⟨z3, h⟩ | ⟨z3, h⟩
  ·try simp only [go_sem, n1, n2, n3, n4, z1, z2] at z3
   all_goals
   obtain rfl := so_some h
   refine ⟨0, fun L hL => ?_⟩
   simp only [go_sem, ir20, E_77_l1, R_77_l1, ir20_b0, ir20_k0, ir20_o0, ir20_r0, z1, z2, lz2, xz2, z3]
  ·try simp only [go_sem, n1, n2, n3, n4, z1, z2] at z3
   all_goals
   rcases it_some h with ⟨z4, h⟩ | ⟨z4, h⟩
   ·try simp only [go_sem, n1, n2, n3, n4, z1, z2, z3] at z4
    all_goals
    obtain rfl := so_some h
    refine ⟨0, fun L hL => ?_⟩
    simp only [go_sem, ir20, E_77_l1, R_77_l1, ir20_b0, ir20_k0, ir20_o0, ir20_r0, z1, z2, lz2, xz2, z3, z4]
   ·try simp only [go_sem, n1, n2, n3, n4, z1, z2, z3] at z4
    all_goals
    obtain rfl := so_some h
    refine ⟨0, fun L hL => ?_⟩
    simp only [go_sem, ir20, E_77_l1, R_77_l1, ir20_b0, ir20_k0, ir20_o0, ir20_r0, z1, z2, lz2, xz2, z3, z4]
 ·try simp only [go_sem, n1, n2, n3, n4] at z1
  all_goals
  obtain rfl := so_some h
  refine ⟨0, fun L hL => ?_⟩
  simp only [go_sem, ir20, E_77_l1, R_77_l1, ir20_b0, ir20_k0, ir20_o0, ir20_r0, z1]

theorem Fs_77 {a : List Fault} {k : Int} {y_ : Int} (h : laws_heldFaultS a k = some y_) : c_77.F [.sl 2 (List.map Fault_av a), .int .i64 k] = ⟨true, .int .i64 y_, [.any, .any]⟩ := by
 refine mkF_E rfl ?_
 dsimp only [laws_heldFaultS] at h
 obtain ⟨y_5, z5, h⟩ := bd_some h
 obtain ⟨Lz5, ez5⟩ := laws_heldFaultS_l1_ex z5
 rcases y_5 with y_5a | y_5b
 ·dsimp only at h
  obtain rfl := so_some h
  refine ⟨Lz5, fun L hL => ?_⟩
  have ez5 := ez5 L (by omega)
  try simp only [go_sem, E_77_l1, R_77_l1, ir20_k0, ir20_o0, ir20_r0] at ez5
  simp only [go_sem, ir20, E_77_l1, R_77_l1, ir20_k0, ir20_o0, ir20_r0, ez5]
 ·dsimp only at h
  obtain rfl := so_some h
  refine ⟨Lz5, fun L hL => ?_⟩
  have ez5 := ez5 L (by omega)
  try simp only [go_sem, E_77_l1, R_77_l1, ir20_k0, ir20_o0, ir20_r0] at ez5
  simp only [go_sem, ir20, E_77_l1, R_77_l1, ir20_k0, ir20_o0, ir20_r0, ez5]


def ir3_v : List Nat := [0, 1, 2, 3, 8, 9, 10, 11, 12, 13, 14, 15, 16, 17, 18, 19, 20, 21]
def ir3 : AFn := ⟨4, 18, .seq (.region false [ VO 4 8 (.mov (.c (.bool false)))]) (.seq (.region false [ VO 5 9 (.mov (I6 1048576))]) (.seq (.region false [ PM 22 0, PM 23 5, PO 24 (.call 4 [(.s 1), (.s 0)]), VS 5 9 0]) (.seq (.test false [ PM 25 5, PO 26 (.bin false .lss (.s 0) (I6 0))] (.s 0) (.seq (.region false [ VO 4 8 (.mov (.c (.bool true)))]) (.ret)) (.skip)) (.seq (.region false [ PM 27 1, PM 28 5, PO 29 (.call 5 [(.s 1), (.s 0)]), VS 5 9 0]) (.seq (.test false [ PM 30 5, PO 31 (.bin false .lss (.s 0) (I6 0))] (.s 0) (.seq (.region false [ VO 4 8 (.mov (.c (.bool true)))]) (.ret))
 (.skip)) (.seq (.region false [ PM 32 2, PM 33 5, PO 34 (.call 6 [(.s 1), (.s 0)]), VS 5 9 0]) (.seq (.test false [ PM 35 5, PO 36 (.bin false .lss (.s 0) (I6 0))] (.s 0) (.seq (.region false [ VO 4 8 (.mov (.c (.bool true)))]) (.ret)) (.skip)) (.seq (.region false [ PM 38 0, PO 39 (.call 8 [(.s 0)]), PM 40 1, PO 41 (.call 9 [(.s 0)]), PM 42 2, PO 43 (.call 10 [(.s 0)]), PM 44 3, PO 45 (.call 7 [(.s 5), (.s 3), (.s 1), (.s 0)]), PO 37 (.mov (.s 0)), PO 46 (.ext (.s 0) 0), PO 47 (.ext (.s 1) 1), VS 6 10 1, VS 7 11 0]) (.seq (.region false [ PM 48 0, PO 49 (.call 8 [(.s 0)]), VS 8 12 0]) (.seq
 (.region false [ PM 50 1, PO 51 (.call 9 [(.s 0)]), VS 9 13 0]) (.seq (.region false [ PM 52 2, PO 53 (.call 10 [(.s 0)]), VS 10 14 0]) (.seq (.region false [ PM 55 8, PM 56 9, PM 57 10, PM 58 3, PO 59 (.call 11 [(.s 3), (.s 2), (.s 1), (.s 0)]), PO 54 (.mov (.s 0)), PO 60 (.ext (.s 0) 0), PO 61 (.ext (.s 1) 1), VS 11 15 1, VS 12 16 0]) (.seq (.test false [ PM 62 11, PM 63 6, PO 64 (.call 12 [(.s 1), (.s 0)]), PO 65 (.un .not (.s 0)), PO 66 (.mov (.s 0)), ⟨.push, 67, (some ((.s 0), false)), .mov (.v 12)⟩, ⟨.push, 68, (some ((.s 1), false)), .mov (.v 7)⟩, ⟨.push, 69, (some ((.s 2), false)),
 .bin false .neq (.s 1) (.s 0)⟩, PO 70 (.pick (.s 3) (.c (.bool true)) (.s 0))] (.s 0) (.seq (.region false [ VO 4 8 (.mov (.c (.bool false)))]) (.ret)) (.skip)) (.seq (.test false [ PM 71 8, PM 72 0, PO 73 (.call 8 [(.s 0)]), PO 74 (.call 13 [(.s 2), (.s 0)]), PO 75 (.un .not (.s 0))] (.s 0) (.seq (.region false [ VO 4 8 (.mov (.c (.bool false)))]) (.ret)) (.skip)) (.seq (.test false [ PM 76 9, PM 77 1, PO 78 (.call 9 [(.s 0)]), PO 79 (.call 14 [(.s 2), (.s 0)]), PO 80 (.un .not (.s 0))] (.s 0) (.seq (.region false [ VO 4 8 (.mov (.c (.bool false)))]) (.ret)) (.skip)) (.seq (.test false [ PM
 81 10, PM 82 2, PO 83 (.call 10 [(.s 0)]), PO 84 (.call 15 [(.s 2), (.s 0)]), PO 85 (.un .not (.s 0))] (.s 0) (.seq (.region false [ VO 4 8 (.mov (.c (.bool false)))]) (.ret)) (.skip)) (.seq (.region false [ VO 13 17 (.mov (I6 1))]) (.seq (.region false [ PM 86 8, PM 87 13, PO 88 (.call 16 [(.s 1), (.s 0)]), VS 13 17 0]) (.seq (.region false [ PM 89 9, PM 90 13, PO 91 (.call 17 [(.s 1), (.s 0)]), VS 13 17 0]) (.seq (.region false [ PM 92 10, PM 93 13, PO 94 (.call 18 [(.s 1), (.s 0)]), VS 13 17 0]) (.seq (.test false [ PM 95 13, PO 96 (.bin false .lss (.s 0) (I6 0)), PO 97 (.mov (.s 0)),
 ⟨.push, 98, (some ((.s 0), false)), .mov (.v 11)⟩, ⟨.push, 99, (some ((.s 1), false)), .mov (.v 6)⟩, ⟨.push, 100, (some ((.s 2), false)), .call 12 [(.s 1), (.s 0)]⟩, ⟨.push, 101, (some ((.s 3), false)), .un .not (.s 0)⟩, PO 102 (.pick (.s 4) (.c (.bool true)) (.s 0)), PO 103 (.mov (.s 0)), ⟨.push, 104, (some ((.s 0), false)), .mov (.v 12)⟩, ⟨.push, 105, (some ((.s 1), false)), .mov (.v 7)⟩, ⟨.push, 106, (some ((.s 2), false)), .bin false .neq (.s 1) (.s 0)⟩, PO 107 (.pick (.s 3) (.c (.bool true)) (.s 0))] (.s 0) (.seq (.region false [ VO 4 8 (.mov (.c (.bool false)))]) (.ret)) (.skip)) (.seq
 (.region false [ VO 14 18 (.mov (I6 1))]) (.seq (.region false [ PM 108 11, PM 109 14, PO 110 (.call 19 [(.s 1), (.s 0)]), VS 14 18 0]) (.seq (.region false [ VO 15 19 (.mov (I6 1))]) (.seq (.region false [ PM 111 11, PM 112 15, PO 113 (.call 20 [(.s 1), (.s 0)]), VS 15 19 0]) (.seq (.test false [ PM 114 15, PO 115 (.bin false .lss (.s 0) (I6 0))] (.s 0) (.seq (.region false [ VO 4 8 (.mov (.c (.bool false)))]) (.ret)) (.skip)) (.seq (.test false [ PM 116 15, PM 117 14, PO 118 (.bin false .neq (.s 1) (.s 0))] (.s 0) (.seq (.region false [ VO 4 8 (.mov (.c (.bool false)))]) (.ret)) (.skip))
 (.seq (.region false [ PM 120 0, PO 121 (.call 8 [(.s 0)]), PM 122 1, PO 123 (.call 9 [(.s 0)]), PM 124 2, PO 125 (.call 10 [(.s 0)]), PM 126 3, PO 127 (.call 11 [(.s 5), (.s 3), (.s 1), (.s 0)]), PO 119 (.mov (.s 0)), PO 128 (.ext (.s 0) 0), PO 129 (.ext (.s 1) 1), VS 16 20 1, VS 17 21 0]) (.seq (.test false [ PM 130 16, PM 131 6, PO 132 (.call 12 [(.s 1), (.s 0)]), PO 133 (.un .not (.s 0)), PO 134 (.mov (.s 0)), ⟨.push, 135, (some ((.s 0), false)), .mov (.v 17)⟩, ⟨.push, 136, (some ((.s 1), false)), .mov (.v 7)⟩, ⟨.push, 137, (some ((.s 2), false)), .bin false .neq (.s 1) (.s 0)⟩, PO 138
 (.pick (.s 3) (.c (.bool true)) (.s 0))] (.s 0) (.seq (.region false [ VO 4 8 (.mov (.c (.bool false)))]) (.ret)) (.skip)) (.seq (.region false [ VO 15 19 (.mov (I6 1))]) (.seq (.region false [ PM 139 11, PM 140 15, PO 141 (.call 20 [(.s 1), (.s 0)]), VS 15 19 0]) (.seq (.test false [ PM 142 15, PO 143 (.bin false .lss (.s 0) (I6 0))] (.s 0) (.seq (.region false [ VO 4 8 (.mov (.c (.bool false)))]) (.ret)) (.skip)) (.seq (.test false [ PM 144 15, PM 145 14, PO 146 (.bin false .neq (.s 1) (.s 0))] (.s 0) (.seq (.region false [ VO 4 8 (.mov (.c (.bool false)))]) (.ret)) (.skip)) (.seq (.region
 false [ VO 4 8 (.mov (.c (.bool true)))]) (.ret))))))))))))))))))))))))))))))))))), [.t 4]⟩
noncomputable def t_laws_FnExactAuditEstimates : List (Nat × Ctr) := [(4, c_1), (5, c_3), (6, c_5), (8, c_7), (9, c_9), (10, c_11), (7, c_30), (11, c_63), (12, c_65), (13, c_67), (14, c_69), (15, c_71), (16, c_73), (17, c_74), (18, c_75), (19, c_76), (20, c_77)]
theorem lk_laws_FnExactAuditEstimates_4 : look t_laws_FnExactAuditEstimates 4 = some c_1 := rfl
theorem lk_laws_FnExactAuditEstimates_5 : look t_laws_FnExactAuditEstimates 5 = some c_3 := rfl
theorem lk_laws_FnExactAuditEstimates_6 : look t_laws_FnExactAuditEstimates 6 = some c_5 := rfl
theorem lk_laws_FnExactAuditEstimates_8 : look t_laws_FnExactAuditEstimates 8 = some c_7 := rfl
theorem lk_laws_FnExactAuditEstimates_9 : look t_laws_FnExactAuditEstimates 9 = some c_9 := rfl
theorem lk_laws_FnExactAuditEstimates_10 : look t_laws_FnExactAuditEstimates 10 = some c_11 := rfl
theorem lk_laws_FnExactAuditEstimates_7 : look t_laws_FnExactAuditEstimates 7 = some c_30 := rfl
theorem lk_laws_FnExactAuditEstimates_11 : look t_laws_FnExactAuditEstimates 11 = some c_63 := rfl
theorem lk_laws_FnExactAuditEstimates_12 : look t_laws_FnExactAuditEstimates 12 = some c_65 := rfl
theorem lk_laws_FnExactAuditEstimates_13 : look t_laws_FnExactAuditEstimates 13 = some c_67 := rfl
theorem lk_laws_FnExactAuditEstimates_14 : look t_laws_FnExactAuditEstimates 14 = some c_69 := rfl
theorem lk_laws_FnExactAuditEstimates_15 : look t_laws_FnExactAuditEstimates 15 = some c_71 := rfl
theorem lk_laws_FnExactAuditEstimates_16 : look t_laws_FnExactAuditEstimates 16 = some c_73 := rfl
theorem lk_laws_FnExactAuditEstimates_17 : look t_laws_FnExactAuditEstimates 17 = some c_74 := rfl
theorem lk_laws_FnExactAuditEstimates_18 : look t_laws_FnExactAuditEstimates 18 = some c_75 := rfl
theorem lk_laws_FnExactAuditEstimates_19 : look t_laws_FnExactAuditEstimates 19 = some c_76 := rfl
theorem lk_laws_FnExactAuditEstimates_20 : look t_laws_FnExactAuditEstimates 20 = some c_77 := rfl
noncomputable def c_laws_FnExactAuditEstimates : Ctr := mkF t_laws_FnExactAuditEstimates ir3 [.bor, .bor, .bor, .bor]
theorem s_laws_FnExactAuditEstimates : Sound Try.prog 3 c_laws_FnExactAuditEstimates := mkF_sound _ rfl (snd_cons s_1 (snd_cons s_3 (snd_cons s_5 (snd_cons s_7 (snd_cons s_9 (snd_cons s_11 (snd_cons s_30 (snd_cons s_63 (snd_cons s_65 (snd_cons s_67 (snd_cons s_69 (snd_cons s_71 (snd_cons s_73 (snd_cons s_74 (snd_cons s_75 (snd_cons s_76 (snd_cons s_77 snd_nil))))))))))))))))) (by kernel_rfl : chkFn Try.prog 3 ir3 ir3_v = true)
theorem M_laws_FnExactAuditEstimates : c_laws_FnExactAuditEstimates.modes = [.bor, .bor, .bor, .bor] := rfl
theorem Fl_laws_FnExactAuditEstimates : c_laws_FnExactAuditEstimates.flat = true := rfl
attribute [go_sem] M_laws_FnExactAuditEstimates Fl_laws_FnExactAuditEstimates
attribute [go_sem] lk_laws_FnExactAuditEstimates_4 lk_laws_FnExactAuditEstimates_5 lk_laws_FnExactAuditEstimates_6 lk_laws_FnExactAuditEstimates_8 lk_laws_FnExactAuditEstimates_9 lk_laws_FnExactAuditEstimates_10 lk_laws_FnExactAuditEstimates_7 lk_laws_FnExactAuditEstimates_11 lk_laws_FnExactAuditEstimates_12 lk_laws_FnExactAuditEstimates_13 lk_laws_FnExactAuditEstimates_14 lk_laws_FnExactAuditEstimates_15 lk_laws_FnExactAuditEstimates_16 lk_laws_FnExactAuditEstimates_17 lk_laws_FnExactAuditEstimates_18 lk_laws_FnExactAuditEstimates_19 lk_laws_FnExactAuditEstimates_20
set_option maxHeartbeats 64000000 in
theorem Fs_laws_FnExactAuditEstimates {aList : List Estimate} {aStars : List Star} {aObservers : List Observer} {aMargin : Int} {y_ : Bool} (h : laws_FnExactAuditEstimates aList aStars aObservers aMargin = some y_) : c_laws_FnExactAuditEstimates.F [.sl 5 (List.map Estimate_av aList), .sl 5 (List.map Star_av aStars), .sl 2 (List.map Observer_av aObservers), .int .i64 aMargin] = ⟨true, .bool y_, [.any, .any, .any, .any]⟩ := by
 refine mkF_E rfl ?_
 dsimp only [laws_FnExactAuditEstimates] at h
 obtain ⟨y_1, z1, h⟩ := bd_some h
 have fz1 := Fs_1 z1
 try simp only [go_sem] at fz1
 rcases it_some h with ⟨z2, h⟩ | ⟨z2, h⟩
 ·try simp only [go_sem, n1, n2, n3, n4] at z2
  all_goals
  obtain rfl := so_some h
  refine ⟨0, fun L hL => ?_⟩
  simp only [go_sem, ir3, fz1, z2]
 ·try simp only [go_sem, n1, n2, n3, n4] at z2
  all_goals
  obtain ⟨y_3, z3, h⟩ := bd_some h
  have fz3 := Fs_3 z3
  try simp only [go_sem, z2] at fz3
  rcases it_some h with ⟨z4, h⟩ | ⟨z4, h⟩
  ·try simp only [go_sem, n1, n2, n3, n4, z2] at z4
   all_goals
   obtain rfl := so_some h
   refine ⟨0, fun L hL => ?_⟩
   simp only [go_sem, ir3, fz1, z2, fz3, z4]
  ·try simp only [go_sem, n1, n2, n3, n4, z2] at z4
   all_goals
   obtain ⟨y_5, z5, h⟩ := bd_some h
   have fz5 := Fs_5 z5
   try simp only [go_sem, z2, z4] at fz5
   rcases it_some h with ⟨z6, h⟩ | ⟨z6, h⟩
   ·try simp only [go_sem, n1, n2, n3, n4, z2, z4] at z6
    all_goals
    obtain rfl := so_some h
    refine ⟨0, fun L hL => ?_⟩
    simp only [go_sem, ir3, fz1, z2, fz3, z4, fz5, z6]
   ·try simp only [go_sem, n1, n2, n3, n4, z2, z4] at z6
    all_goals
    obtain ⟨y_7, z7, h⟩ := bd_some h
    have fz7 := Fs_7 z7
    try simp only [go_sem, z2, z4, z6] at fz7
    obtain ⟨y_8, z8, h⟩ := bd_some h
    have fz8 := Fs_9 z8
    try simp only [go_sem, z2, z4, z6] at fz8
    obtain ⟨y_9, z9, h⟩ := bd_some h
    have fz9 := Fs_11 z9
    try simp only [go_sem, z2, z4, z6] at fz9
    obtain ⟨y_10, z10, h⟩ := bd_some h
    have fz10 := Fs_30 z10
    try simp only [go_sem, z2, z4, z6] at fz10
    obtain ⟨y_11, z11, h⟩ := bd_some h
    have fz11 := Fs_63 z11
    try simp only [go_sem, z2, z4, z6] at fz11
    obtain ⟨y_12, z12, h⟩ := bd_some h
    have fz12 := Fs_65 z12
    try simp only [go_sem, z2, z4, z6] at fz12
    rcases it_some h with ⟨z13, h⟩ | ⟨z13, h⟩
    ·try simp only [go_sem, n1, n2, n3, n4, z2, z4, z6] at z13
     all_goals
     obtain rfl := so_some h
     refine ⟨0, fun L hL => ?_⟩
     simp only [go_sem, ir3, fz1, z2, fz3, z4, fz5, z6, fz7, fz8, fz9, fz10, fz11, fz12, z13]
    ·try simp only [go_sem, n1, n2, n3, n4, z2, z4, z6] at z13
     all_goals
     obtain ⟨y_14, z14, h⟩ := bd_some h
     have fz14 := Fs_67 z14
     try simp only [go_sem, z2, z4, z6, z13] at fz14
     rcases it_some h with ⟨z15, h⟩ | ⟨z15, h⟩
     ·try simp only [go_sem, n1, n2, n3, n4, z2, z4, z6, z13] at z15
      all_goals
      obtain rfl := so_some h
      refine ⟨0, fun L hL => ?_⟩
      simp only [go_sem, ir3, fz1, z2, fz3, z4, fz5, z6, fz7, fz8, fz9, fz10, fz11, fz12, z13, fz14, z15]
     ·try simp only [go_sem, n1, n2, n3, n4, z2, z4, z6, z13] at z15
      all_goals
      obtain ⟨y_16, z16, h⟩ := bd_some h
      have fz16 := Fs_69 z16
      try simp only [go_sem, z2, z4, z6, z13, z15] at fz16
      rcases it_some h with ⟨z17, h⟩ | ⟨z17, h⟩
      ·try simp only [go_sem, n1, n2, n3, n4, z2, z4, z6, z13, z15] at z17
       all_goals
       obtain rfl := so_some h
       refine ⟨0, fun L hL => ?_⟩
       simp only [go_sem, ir3, fz1, z2, fz3, z4, fz5, z6, fz7, fz8, fz9, fz10, fz11, fz12, z13, fz14, z15, fz16, z17]
      ·try simp only [go_sem, n1, n2, n3, n4, z2, z4, z6, z13, z15] at z17
       all_goals
       obtain ⟨y_18, z18, h⟩ := bd_some h
       have fz18 := Fs_71 z18
       try simp only [go_sem, z2, z4, z6, z13, z15, z17] at fz18
       rcases it_some h with ⟨z19, h⟩ | ⟨z19, h⟩
       ·try simp only [go_sem, n1, n2, n3, n4, z2, z4, z6, z13, z15, z17] at z19
        all_goals
        obtain rfl := so_some h
        refine ⟨0, fun L hL => ?_⟩
        simp only [go_sem, ir3, fz1, z2, fz3, z4, fz5, z6, fz7, fz8, fz9, fz10, fz11, fz12, z13, fz14, z15, fz16, z17, fz18, z19]
       ·try simp only [go_sem, n1, n2, n3, n4, z2, z4, z6, z13, z15, z17] at z19
        all_goals
        obtain ⟨y_20, z20, h⟩ := bd_some h
        have fz20 := Fs_73 z20
        try simp only [go_sem, z2, z4, z6, z13, z15, z17, z19] at fz20
        obtain ⟨y_21, z21, h⟩ := bd_some h
        have fz21 := Fs_74 z21
        try simp only [go_sem, z2, z4, z6, z13, z15, z17, z19] at fz21
        obtain ⟨y_22, z22, h⟩ := bd_some h
        have fz22 := Fs_75 z22
        try simp only [go_sem, z2, z4, z6, z13, z15, z17, z19] at fz22
        rcases it_some h with ⟨z24, h⟩ | ⟨z24, h⟩
        ·try simp only [go_sem, n1, n2, n3, n4, z2, z4, z6, z13, z15, z17, z19] at z24
         all_goals
         obtain rfl := so_some h
         refine ⟨0, fun L hL => ?_⟩
         simp only [go_sem, ir3, fz1, z2, fz3, z4, fz5, z6, fz7, fz8, fz9, fz10, fz11, fz12, z13, fz14, z15, fz16, z17, fz18, z19, fz20, fz21, fz22, z24]
        ·try simp only [go_sem, n1, n2, n3, n4, z2, z4, z6, z13, z15, z17, z19] at z24
         all_goals
         obtain ⟨y_25, z25, h⟩ := bd_some h
         have fz25 := Fs_76 z25
         try simp only [go_sem, z2, z4, z6, z13, z15, z17, z19, z24] at fz25
         obtain ⟨y_26, z26, h⟩ := bd_some h
         have fz26 := Fs_77 z26
         try simp only [go_sem, z2, z4, z6, z13, z15, z17, z19, z24] at fz26
         rcases it_some h with ⟨z27, h⟩ | ⟨z27, h⟩
         ·try simp only [go_sem, n1, n2, n3, n4, z2, z4, z6, z13, z15, z17, z19, z24] at z27
          all_goals
          obtain rfl := so_some h
          refine ⟨0, fun L hL => ?_⟩
          simp only [go_sem, ir3, fz1, z2, fz3, z4, fz5, z6, fz7, fz8, fz9, fz10, fz11, fz12, z13, fz14, z15, fz16, z17, fz18, z19, fz20, fz21, fz22, z24, fz25, fz26, z27]
         ·try simp only [go_sem, n1, n2, n3, n4, z2, z4, z6, z13, z15, z17, z19, z24] at z27
          all_goals
          rcases it_some h with ⟨z28, h⟩ | ⟨z28, h⟩
          ·try simp only [go_sem, n1, n2, n3, n4, z2, z4, z6, z13, z15, z17, z19, z24, z27] at z28
           all_goals
           obtain rfl := so_some h
           refine ⟨0, fun L hL => ?_⟩
           simp only [go_sem, ir3, fz1, z2, fz3, z4, fz5, z6, fz7, fz8, fz9, fz10, fz11, fz12, z13, fz14, z15, fz16, z17, fz18, z19, fz20, fz21, fz22, z24, fz25, fz26, z27, z28]
          ·try simp only [go_sem, n1, n2, n3, n4, z2, z4, z6, z13, z15, z17, z19, z24, z27] at z28
           all_goals
           obtain rfl := so_some h
           refine ⟨0, fun L hL => ?_⟩
           simp only [go_sem, ir3, fz1, z2, fz3, z4, fz5, z6, fz7, fz8, fz9, fz10, fz11, fz12, z13, fz14, z15, fz16, z17, fz18, z19, fz20, fz21, fz22, z24, fz25, fz26, z27, z28]


end Go.Proofs.Ythbnoddeifedkaa
