/- Codes and contracts of the functions that C4 reaches, and that their typed forms say what they do. No condition. -/
import Derived.Test.YtndkifgpbmaicaaR4T
import Derived.Test.YtndkifgpbmaicaaRows
import Derived.WalkKit
namespace Go.Proofs.Ytndkifgpbmaicaa
open Go Go.RowKit
set_option linter.unusedVariables false
set_option linter.unusedSimpArgs false
set_option maxRecDepth 10000

def ir63_v : List Nat := [0, 1, 2, 3]
def ir63 : AFn := ⟨1, 4, .seq (.region false [
    ⟨.var 1, 1, none, .box (.v 0)⟩,
    ⟨.var 2, 2, none, .alloc (.agg [.str [], .int .i64 (0), .int .i64 (0), .int .i64 (0), .int .i64 (0)])⟩])
 (.seq (.region false [
    ⟨.var 3, 3, none, .alloc (.agg [.str [], .int .i64 (0), .int .i64 (0), .int .i64 (0), .int .i64 (0)])⟩])
 (.seq (.region false [
    ⟨.push, 4, none, .fldAddr 0 (.v 1)⟩,
    ⟨.push, 5, none, .load false 1 (.s 0)⟩,
    ⟨.push, 6, none, .fldAddr 0 (.v 3)⟩,
    ⟨.no, 0, none, .store 1 (.s 0) (.s 1)⟩])
 (.seq (.region false [
    ⟨.push, 7, none, .fldAddr 1 (.v 1)⟩,
    ⟨.push, 8, none, .load false 1 (.s 0)⟩,
    ⟨.push, 9, none, .fldAddr 1 (.v 3)⟩,
    ⟨.no, 0, none, .store 1 (.s 0) (.s 1)⟩])
 (.seq (.region false [
    ⟨.push, 10, none, .fldAddr 2 (.v 1)⟩,
    ⟨.push, 11, none, .load false 1 (.s 0)⟩,
    ⟨.push, 12, none, .fldAddr 2 (.v 3)⟩,
    ⟨.no, 0, none, .store 1 (.s 0) (.s 1)⟩])
 (.seq (.region false [
    ⟨.push, 13, none, .fldAddr 3 (.v 1)⟩,
    ⟨.push, 14, none, .load false 1 (.s 0)⟩,
    ⟨.push, 15, none, .fldAddr 3 (.v 3)⟩,
    ⟨.no, 0, none, .store 1 (.s 0) (.s 1)⟩])
 (.seq (.region false [
    ⟨.push, 16, none, .fldAddr 4 (.v 1)⟩,
    ⟨.push, 17, none, .load false 1 (.s 0)⟩,
    ⟨.push, 18, none, .fldAddr 4 (.v 3)⟩,
    ⟨.no, 0, none, .store 1 (.s 0) (.s 1)⟩])
 (.seq (.region false [
    ⟨.push, 19, none, .load true 5 (.v 3)⟩,
    ⟨.no, 0, none, .store 5 (.v 2) (.s 0)⟩])
 (.ret)))))))), [.cell true 5 2]⟩
noncomputable def t_laws_toStar : List (Nat × Ctr) := []
noncomputable def c_laws_toStar : Ctr := mkN t_laws_toStar ir63 [.bor]
theorem s_laws_toStar : Sound Try.prog 63 c_laws_toStar := mkN_sound _ snd_nil (by kernel_rfl : chkFn Try.prog 63 ir63 ir63_v = true)
theorem M_laws_toStar : c_laws_toStar.modes = [.bor] := rfl
theorem Fl_laws_toStar : c_laws_toStar.flat = false := rfl
attribute [go_sem] M_laws_toStar Fl_laws_toStar
theorem Fs_laws_toStar {a : Star} {y_ : Star} (h : laws_toStar a = some y_) : c_laws_toStar.F [Star_av a] = ⟨true, Star_av y_, [.any]⟩ := by
  refine mkN_E ?_
  dsimp only [laws_toStar] at h
  obtain rfl := so_some h
  refine ⟨0, fun L hL => ?_⟩
  simp only [go_sem, ir63]


def ir44_b0 : IR := .seq (.test false [
    ⟨.push, 8, none, .mov (.v 3)⟩,
    ⟨.push, 9, none, .mov (.v 0)⟩,
    ⟨.push, 10, none, .len false (.s 0)⟩,
    ⟨.push, 11, none, .bin false .lss (.s 2) (.s 0)⟩] (.s 0)
  (.skip)
  (.exit 0))
 (.seq (.block 1 (.region false [
     ⟨.push, 14, none, .mov (.v 2)⟩,
     ⟨.push, 15, none, .mov (.v 3)⟩,
     ⟨.push, 16, none, .mov (.v 0)⟩,
     ⟨.push, 17, none, .mov (.v 3)⟩,
     ⟨.push, 18, none, .ixAddr 5 (.s 1) (.s 0)⟩,
     ⟨.push, 19, none, .load true 5 (.s 0)⟩,
     ⟨.push, 20, none, .call 63 [(.s 0)]⟩,
     ⟨.push, 21, none, .ixAddr 5 (.s 6) (.s 5)⟩,
     ⟨.no, 0, none, .store 5 (.s 0) (.s 1)⟩]))
 (.region false [
   ⟨.push, 12, none, .mov (.v 3)⟩,
   ⟨.push, 13, none, .bin false .add (.s 0) (.c (.int .i64 (1)))⟩,
   ⟨.var 3, 4, none, .mov (.s 0)⟩]))
def ir44_k0 : List Bool := [true, false, true, true]
def ir44_o0 : List Bool := [false, false, true, false]
def ir44_r0 : List Bool := [false, true, false, false]
def ir44_v : List Nat := [0, 2, 3, 4]
def ir44 : AFn := ⟨1, 4, .seq (.region false [
    ⟨.var 1, 2, none, .newnil 5⟩])
 (.seq (.region false [
    ⟨.push, 5, none, .mov (.v 0)⟩,
    ⟨.push, 6, none, .len false (.s 0)⟩,
    ⟨.push, 7, none, .make 5 48 (.agg [.str [], .int .i64 (0), .int .i64 (0), .int .i64 (0), .int .i64 (0)]) (.s 0) (.s 0)⟩,
    ⟨.var 2, 3, none, .mov (.s 0)⟩])
 (.seq (.seq (.region false [
     ⟨.var 3, 4, none, .mov (.c (.int .i64 (0)))⟩])
  (.block 0 (.loop ir44_k0 ir44_o0 ir44_r0 ir44_b0)))
 (.seq (.region false [
    ⟨.push, 22, none, .mov (.v 2)⟩,
    ⟨.var 1, 2, none, .mov (.s 0)⟩])
 (.ret)))), [.t 1]⟩
noncomputable def t_laws_toStarS : List (Nat × Ctr) := [(63, c_laws_toStar)]
theorem lk_laws_toStarS_63 : look t_laws_toStarS 63 = some c_laws_toStar := rfl
noncomputable def c_laws_toStarS : Ctr := mkF t_laws_toStarS ir44 [.bor]
theorem s_laws_toStarS : Sound Try.prog 44 c_laws_toStarS := mkF_sound _ rfl (snd_cons s_laws_toStar snd_nil) (by kernel_rfl : chkFn Try.prog 44 ir44 ir44_v = true)
theorem M_laws_toStarS : c_laws_toStarS.modes = [.bor] := rfl
theorem Fl_laws_toStarS : c_laws_toStarS.flat = true := rfl
attribute [go_sem] M_laws_toStarS Fl_laws_toStarS
attribute [go_sem] lk_laws_toStarS_63
def E_laws_toStarS_l1 (a : List Star) : ((List Star) × Int) → St
  | (out, i) => ⟨[.sl 5 (List.map Star_av a), .any, .own 3200000, .int .i64 i], [], [(3200000, ⟨5, List.map Star_av out⟩)], true⟩
def R_laws_toStarS_l1 (a : List Star) (y : (List Star)) : Res := (.exit 0, ⟨[.any, .any, .own 3200000, .any], [], [(3200000, ⟨5, List.map Star_av y⟩)], true⟩)
theorem laws_toStarS_l1_ex {a : List Star} {sgm_ : (List Star) × Int} {rho_ : (List Star)} (h : whileE (laws_toStarS_l1 a) sgm_ = some rho_) : ∃ L0, ∀ L, L0 ≤ L → iter (exec (look t_laws_toStarS) L ir44_b0) ir44_k0 ir44_o0 ir44_r0 L (E_laws_toStarS_l1 a sgm_) = R_laws_toStarS_l1 a rho_ := by
  refine loop_ex (E := E_laws_toStarS_l1 a) (R := R_laws_toStarS_l1 a) (fun y => by first | (intro c; cases c) | (rcases y with y | y <;> (intro c; cases c)) | (rcases y with y | y | y <;> (intro c; cases c))) ?_ h
  clear h
  rintro ⟨out, i⟩ o_ h
  dsimp only [laws_toStarS_l1] at h
  rcases it_some h with ⟨hk2, h⟩ | ⟨hk2, h⟩
  · try simp only [go_sem, n1, n2, n3, n4] at hk2
    all_goals
    obtain ⟨hk3, h⟩ := ck_some h
    have lhk3 := ix_lt hk3
    have xhk3 := getD_mapD Star_av a lhk3
    try simp only [go_sem] at lhk3
    try simp only [go_sem] at xhk3
    try simp only [go_sem, n1, n2, n3, n4, hk2] at hk3
    all_goals
    obtain ⟨y_4, hk4, h⟩ := bd_some h
    have fhk4 := Fs_laws_toStar hk4
    try simp only [go_sem] at fhk4
    obtain ⟨hk5, h⟩ := ck_some h
    have lhk5 := ix_lt hk5
    have xhk5 := getD_mapD Star_av out lhk5
    try simp only [go_sem] at lhk5
    try simp only [go_sem] at xhk5
    try simp only [go_sem, n1, n2, n3, n4, hk2, hk3] at hk5
    all_goals
    obtain rfl := so_some h
    refine ⟨0, fun L hL => ?_⟩
    simp only [go_sem, ir44, E_laws_toStarS_l1, R_laws_toStarS_l1, ir44_b0, ir44_k0, ir44_o0, ir44_r0, hk2, hk3, lhk3, xhk3, fhk4, hk5, lhk5, xhk5]
  · try simp only [go_sem, n1, n2, n3, n4] at hk2
    all_goals
    obtain rfl := so_some h
    refine ⟨0, fun L hL => ?_⟩
    simp only [go_sem, ir44, E_laws_toStarS_l1, R_laws_toStarS_l1, ir44_b0, ir44_k0, ir44_o0, ir44_r0, hk2]

theorem Fs_laws_toStarS {a : List Star} {y_ : (List Star)} (h : laws_toStarS a = some y_) : c_laws_toStarS.F [.sl 5 (List.map Star_av a)] = ⟨true, .fresh 5 (List.map Star_av y_), [.any]⟩ := by
  refine mkF_E (by simp only [flatA, flatB, flat1, List.all_cons, List.all_nil, Bool.and_self, flatE_map (f := Star_av) (fun _ => rfl)]) ?_
  dsimp only [laws_toStarS] at h
  obtain ⟨hk1, h⟩ := ck_some h
  try simp only [go_sem, n1, n2, n3, n4] at hk1
  all_goals
  obtain ⟨y_6, hk6, h⟩ := bd_some h
  obtain ⟨Lhk6, ehk6⟩ := laws_toStarS_l1_ex hk6
  obtain rfl := so_some h
  refine ⟨Lhk6, fun L hL => ?_⟩
  have ehk6 := ehk6 L (by omega)
  try simp only [go_sem, E_laws_toStarS_l1, R_laws_toStarS_l1, ir44_k0, ir44_o0, ir44_r0] at ehk6
  simp only [go_sem, ir44, E_laws_toStarS_l1, R_laws_toStarS_l1, ir44_k0, ir44_o0, ir44_r0, hk1, ehk6]


def ir64_v : List Nat := [0, 1, 2, 3]
def ir64 : AFn := ⟨1, 4, .seq (.region false [
    ⟨.var 1, 1, none, .box (.v 0)⟩,
    ⟨.var 2, 2, none, .alloc (.agg [.int .i64 (0), .str [], .str [], .int .i64 (0), .bool false])⟩])
 (.seq (.region false [
    ⟨.var 3, 3, none, .alloc (.agg [.int .i64 (0), .str [], .str [], .int .i64 (0), .bool false])⟩])
 (.seq (.region false [
    ⟨.push, 4, none, .fldAddr 0 (.v 1)⟩,
    ⟨.push, 5, none, .load false 1 (.s 0)⟩,
    ⟨.push, 6, none, .fldAddr 0 (.v 3)⟩,
    ⟨.no, 0, none, .store 1 (.s 0) (.s 1)⟩])
 (.seq (.region false [
    ⟨.push, 7, none, .fldAddr 1 (.v 1)⟩,
    ⟨.push, 8, none, .load false 1 (.s 0)⟩,
    ⟨.push, 9, none, .fldAddr 1 (.v 3)⟩,
    ⟨.no, 0, none, .store 1 (.s 0) (.s 1)⟩])
 (.seq (.region false [
    ⟨.push, 10, none, .fldAddr 2 (.v 1)⟩,
    ⟨.push, 11, none, .load false 1 (.s 0)⟩,
    ⟨.push, 12, none, .fldAddr 2 (.v 3)⟩,
    ⟨.no, 0, none, .store 1 (.s 0) (.s 1)⟩])
 (.seq (.region false [
    ⟨.push, 13, none, .fldAddr 3 (.v 1)⟩,
    ⟨.push, 14, none, .load false 1 (.s 0)⟩,
    ⟨.push, 15, none, .fldAddr 3 (.v 3)⟩,
    ⟨.no, 0, none, .store 1 (.s 0) (.s 1)⟩])
 (.seq (.region false [
    ⟨.push, 16, none, .fldAddr 4 (.v 1)⟩,
    ⟨.push, 17, none, .load false 1 (.s 0)⟩,
    ⟨.push, 18, none, .fldAddr 4 (.v 3)⟩,
    ⟨.no, 0, none, .store 1 (.s 0) (.s 1)⟩])
 (.seq (.region false [
    ⟨.push, 19, none, .load true 5 (.v 3)⟩,
    ⟨.no, 0, none, .store 5 (.v 2) (.s 0)⟩])
 (.ret)))))))), [.cell true 5 2]⟩
noncomputable def t_laws_toEstimate : List (Nat × Ctr) := []
noncomputable def c_laws_toEstimate : Ctr := mkN t_laws_toEstimate ir64 [.bor]
theorem s_laws_toEstimate : Sound Try.prog 64 c_laws_toEstimate := mkN_sound _ snd_nil (by kernel_rfl : chkFn Try.prog 64 ir64 ir64_v = true)
theorem M_laws_toEstimate : c_laws_toEstimate.modes = [.bor] := rfl
theorem Fl_laws_toEstimate : c_laws_toEstimate.flat = false := rfl
attribute [go_sem] M_laws_toEstimate Fl_laws_toEstimate
theorem Fs_laws_toEstimate {a : Estimate} {y_ : Estimate} (h : laws_toEstimate a = some y_) : c_laws_toEstimate.F [Estimate_av a] = ⟨true, Estimate_av y_, [.any]⟩ := by
  refine mkN_E ?_
  dsimp only [laws_toEstimate] at h
  obtain rfl := so_some h
  refine ⟨0, fun L hL => ?_⟩
  simp only [go_sem, ir64]


def ir45_b0 : IR := .seq (.test false [
    ⟨.push, 8, none, .mov (.v 3)⟩,
    ⟨.push, 9, none, .mov (.v 0)⟩,
    ⟨.push, 10, none, .len false (.s 0)⟩,
    ⟨.push, 11, none, .bin false .lss (.s 2) (.s 0)⟩] (.s 0)
  (.skip)
  (.exit 0))
 (.seq (.block 1 (.region false [
     ⟨.push, 14, none, .mov (.v 2)⟩,
     ⟨.push, 15, none, .mov (.v 3)⟩,
     ⟨.push, 16, none, .mov (.v 0)⟩,
     ⟨.push, 17, none, .mov (.v 3)⟩,
     ⟨.push, 18, none, .ixAddr 5 (.s 1) (.s 0)⟩,
     ⟨.push, 19, none, .load true 5 (.s 0)⟩,
     ⟨.push, 20, none, .call 64 [(.s 0)]⟩,
     ⟨.push, 21, none, .ixAddr 5 (.s 6) (.s 5)⟩,
     ⟨.no, 0, none, .store 5 (.s 0) (.s 1)⟩]))
 (.region false [
   ⟨.push, 12, none, .mov (.v 3)⟩,
   ⟨.push, 13, none, .bin false .add (.s 0) (.c (.int .i64 (1)))⟩,
   ⟨.var 3, 4, none, .mov (.s 0)⟩]))
def ir45_k0 : List Bool := [true, false, true, true]
def ir45_o0 : List Bool := [false, false, true, false]
def ir45_r0 : List Bool := [false, true, false, false]
def ir45_v : List Nat := [0, 2, 3, 4]
def ir45 : AFn := ⟨1, 4, .seq (.region false [
    ⟨.var 1, 2, none, .newnil 5⟩])
 (.seq (.region false [
    ⟨.push, 5, none, .mov (.v 0)⟩,
    ⟨.push, 6, none, .len false (.s 0)⟩,
    ⟨.push, 7, none, .make 5 56 (.agg [.int .i64 (0), .str [], .str [], .int .i64 (0), .bool false]) (.s 0) (.s 0)⟩,
    ⟨.var 2, 3, none, .mov (.s 0)⟩])
 (.seq (.seq (.region false [
     ⟨.var 3, 4, none, .mov (.c (.int .i64 (0)))⟩])
  (.block 0 (.loop ir45_k0 ir45_o0 ir45_r0 ir45_b0)))
 (.seq (.region false [
    ⟨.push, 22, none, .mov (.v 2)⟩,
    ⟨.var 1, 2, none, .mov (.s 0)⟩])
 (.ret)))), [.t 1]⟩
noncomputable def t_laws_toEstimateS : List (Nat × Ctr) := [(64, c_laws_toEstimate)]
theorem lk_laws_toEstimateS_64 : look t_laws_toEstimateS 64 = some c_laws_toEstimate := rfl
noncomputable def c_laws_toEstimateS : Ctr := mkF t_laws_toEstimateS ir45 [.bor]
theorem s_laws_toEstimateS : Sound Try.prog 45 c_laws_toEstimateS := mkF_sound _ rfl (snd_cons s_laws_toEstimate snd_nil) (by kernel_rfl : chkFn Try.prog 45 ir45 ir45_v = true)
theorem M_laws_toEstimateS : c_laws_toEstimateS.modes = [.bor] := rfl
theorem Fl_laws_toEstimateS : c_laws_toEstimateS.flat = true := rfl
attribute [go_sem] M_laws_toEstimateS Fl_laws_toEstimateS
attribute [go_sem] lk_laws_toEstimateS_64
def E_laws_toEstimateS_l1 (a : List Estimate) : ((List Estimate) × Int) → St
  | (out, i) => ⟨[.sl 5 (List.map Estimate_av a), .any, .own 3200000, .int .i64 i], [], [(3200000, ⟨5, List.map Estimate_av out⟩)], true⟩
def R_laws_toEstimateS_l1 (a : List Estimate) (y : (List Estimate)) : Res := (.exit 0, ⟨[.any, .any, .own 3200000, .any], [], [(3200000, ⟨5, List.map Estimate_av y⟩)], true⟩)
theorem laws_toEstimateS_l1_ex {a : List Estimate} {sgm_ : (List Estimate) × Int} {rho_ : (List Estimate)} (h : whileE (laws_toEstimateS_l1 a) sgm_ = some rho_) : ∃ L0, ∀ L, L0 ≤ L → iter (exec (look t_laws_toEstimateS) L ir45_b0) ir45_k0 ir45_o0 ir45_r0 L (E_laws_toEstimateS_l1 a sgm_) = R_laws_toEstimateS_l1 a rho_ := by
  refine loop_ex (E := E_laws_toEstimateS_l1 a) (R := R_laws_toEstimateS_l1 a) (fun y => by first | (intro c; cases c) | (rcases y with y | y <;> (intro c; cases c)) | (rcases y with y | y | y <;> (intro c; cases c))) ?_ h
  clear h
  rintro ⟨out, i⟩ o_ h
  dsimp only [laws_toEstimateS_l1] at h
  rcases it_some h with ⟨hk2, h⟩ | ⟨hk2, h⟩
  · try simp only [go_sem, n1, n2, n3, n4] at hk2
    all_goals
    obtain ⟨hk3, h⟩ := ck_some h
    have lhk3 := ix_lt hk3
    have xhk3 := getD_mapD Estimate_av a lhk3
    try simp only [go_sem] at lhk3
    try simp only [go_sem] at xhk3
    try simp only [go_sem, n1, n2, n3, n4, hk2] at hk3
    all_goals
    obtain ⟨y_4, hk4, h⟩ := bd_some h
    have fhk4 := Fs_laws_toEstimate hk4
    try simp only [go_sem] at fhk4
    obtain ⟨hk5, h⟩ := ck_some h
    have lhk5 := ix_lt hk5
    have xhk5 := getD_mapD Estimate_av out lhk5
    try simp only [go_sem] at lhk5
    try simp only [go_sem] at xhk5
    try simp only [go_sem, n1, n2, n3, n4, hk2, hk3] at hk5
    all_goals
    obtain rfl := so_some h
    refine ⟨0, fun L hL => ?_⟩
    simp only [go_sem, ir45, E_laws_toEstimateS_l1, R_laws_toEstimateS_l1, ir45_b0, ir45_k0, ir45_o0, ir45_r0, hk2, hk3, lhk3, xhk3, fhk4, hk5, lhk5, xhk5]
  · try simp only [go_sem, n1, n2, n3, n4] at hk2
    all_goals
    obtain rfl := so_some h
    refine ⟨0, fun L hL => ?_⟩
    simp only [go_sem, ir45, E_laws_toEstimateS_l1, R_laws_toEstimateS_l1, ir45_b0, ir45_k0, ir45_o0, ir45_r0, hk2]

theorem Fs_laws_toEstimateS {a : List Estimate} {y_ : (List Estimate)} (h : laws_toEstimateS a = some y_) : c_laws_toEstimateS.F [.sl 5 (List.map Estimate_av a)] = ⟨true, .fresh 5 (List.map Estimate_av y_), [.any]⟩ := by
  refine mkF_E (by simp only [flatA, flatB, flat1, List.all_cons, List.all_nil, Bool.and_self, flatE_map (f := Estimate_av) (fun _ => rfl)]) ?_
  dsimp only [laws_toEstimateS] at h
  obtain ⟨hk1, h⟩ := ck_some h
  try simp only [go_sem, n1, n2, n3, n4] at hk1
  all_goals
  obtain ⟨y_6, hk6, h⟩ := bd_some h
  obtain ⟨Lhk6, ehk6⟩ := laws_toEstimateS_l1_ex hk6
  obtain rfl := so_some h
  refine ⟨Lhk6, fun L hL => ?_⟩
  have ehk6 := ehk6 L (by omega)
  try simp only [go_sem, E_laws_toEstimateS_l1, R_laws_toEstimateS_l1, ir45_k0, ir45_o0, ir45_r0] at ehk6
  simp only [go_sem, ir45, E_laws_toEstimateS_l1, R_laws_toEstimateS_l1, ir45_k0, ir45_o0, ir45_r0, hk1, ehk6]


def ir23_v : List Nat := [0, 1, 2, 3]
def ir23 : AFn := ⟨1, 4, .seq (.region false [
    ⟨.var 1, 1, none, .box (.v 0)⟩,
    ⟨.var 2, 2, none, .alloc (.agg [.sl 5 [], .sl 5 [], .str []])⟩])
 (.seq (.region false [
    ⟨.var 3, 3, none, .alloc (.agg [.sl 5 [], .sl 5 [], .str []])⟩])
 (.seq (.region false [
    ⟨.push, 4, none, .fldAddr 0 (.v 1)⟩,
    ⟨.push, 5, none, .load false 1 (.s 0)⟩,
    ⟨.push, 6, none, .call 44 [(.s 0)]⟩,
    ⟨.push, 7, none, .fldAddr 0 (.v 3)⟩,
    ⟨.no, 0, none, .store 1 (.s 0) (.s 1)⟩])
 (.seq (.region false [
    ⟨.push, 8, none, .fldAddr 1 (.v 1)⟩,
    ⟨.push, 9, none, .load false 1 (.s 0)⟩,
    ⟨.push, 10, none, .call 45 [(.s 0)]⟩,
    ⟨.push, 11, none, .fldAddr 1 (.v 3)⟩,
    ⟨.no, 0, none, .store 1 (.s 0) (.s 1)⟩])
 (.seq (.region false [
    ⟨.push, 12, none, .fldAddr 2 (.v 1)⟩,
    ⟨.push, 13, none, .load false 1 (.s 0)⟩,
    ⟨.push, 14, none, .fldAddr 2 (.v 3)⟩,
    ⟨.no, 0, none, .store 1 (.s 0) (.s 1)⟩])
 (.seq (.region false [
    ⟨.push, 15, none, .load true 3 (.v 3)⟩,
    ⟨.no, 0, none, .store 3 (.v 2) (.s 0)⟩])
 (.ret)))))), [.cell true 3 2]⟩
noncomputable def t_laws_toDesk : List (Nat × Ctr) := [(44, c_laws_toStarS), (45, c_laws_toEstimateS)]
theorem lk_laws_toDesk_44 : look t_laws_toDesk 44 = some c_laws_toStarS := rfl
theorem lk_laws_toDesk_45 : look t_laws_toDesk 45 = some c_laws_toEstimateS := rfl
noncomputable def c_laws_toDesk : Ctr := mkN t_laws_toDesk ir23 [.bor]
theorem s_laws_toDesk : Sound Try.prog 23 c_laws_toDesk := mkN_sound _ (snd_cons s_laws_toStarS (snd_cons s_laws_toEstimateS snd_nil)) (by kernel_rfl : chkFn Try.prog 23 ir23 ir23_v = true)
theorem M_laws_toDesk : c_laws_toDesk.modes = [.bor] := rfl
theorem Fl_laws_toDesk : c_laws_toDesk.flat = false := rfl
attribute [go_sem] M_laws_toDesk Fl_laws_toDesk
attribute [go_sem] lk_laws_toDesk_44 lk_laws_toDesk_45
theorem Fs_laws_toDesk {a : Desk} {y_ : Desk} (h : laws_toDesk a = some y_) : c_laws_toDesk.F [Desk_av a] = ⟨true, Desk_av y_, [.any]⟩ := by
  refine mkN_E ?_
  dsimp only [laws_toDesk] at h
  obtain ⟨y_1, hk1, h⟩ := bd_some h
  have fhk1 := Fs_laws_toStarS hk1
  try simp only [go_sem] at fhk1
  obtain ⟨y_2, hk2, h⟩ := bd_some h
  have fhk2 := Fs_laws_toEstimateS hk2
  try simp only [go_sem] at fhk2
  obtain rfl := so_some h
  refine ⟨0, fun L hL => ?_⟩
  simp only [go_sem, ir23, fhk1, fhk2]


def ir42_b0 : IR := .seq (.test false [
    ⟨.push, 11, none, .mov (.v 3)⟩,
    ⟨.push, 12, none, .mov (.v 0)⟩,
    ⟨.push, 13, none, .len false (.s 0)⟩,
    ⟨.push, 14, none, .bin false .lss (.s 2) (.s 0)⟩] (.s 0)
  (.skip)
  (.exit 0))
 (.seq (.block 1 (.anyo 9 [
     ⟨.slot 0, 17, none, .mov (.v 0)⟩,
     ⟨.slot 1, 18, none, .mov (.v 3)⟩,
     ⟨.slot 2, 19, none, .ixAddr 5 (.s 0) (.s 1)⟩,
     ⟨.slot 3, 20, none, .load true 5 (.s 2)⟩,
     ⟨.slot 4, 21, none, .mov (.v 1)⟩,
     ⟨.slot 5, 22, none, .mov (.v 3)⟩,
     ⟨.slot 6, 23, none, .ixAddr 5 (.s 4) (.s 5)⟩,
     ⟨.slot 7, 24, none, .load true 5 (.s 6)⟩,
     ⟨.slot 8, 25, none, .eqA true [2, 1, 1, 1, 1] (.s 3) (.s 7)⟩] [] (.cond (.s 8)
   (.seq (.region false [
       ⟨.var 2, 4, none, .mov (.c (.bool false))⟩])
    (.ret))
   (.skip))))
 (.region false [
   ⟨.push, 15, none, .mov (.v 3)⟩,
   ⟨.push, 16, none, .bin false .add (.s 0) (.c (.int .i64 (1)))⟩,
   ⟨.var 3, 5, none, .mov (.s 0)⟩]))
def ir42_k0 : List Bool := [true, true, false, true]
def ir42_o0 : List Bool := [false, false, false, false]
def ir42_r0 : List Bool := [false, false, true, false]
def ir42_v : List Nat := [0, 1, 4, 5]
def ir42 : AFn := ⟨2, 4, .seq (.region false [
    ⟨.var 2, 4, none, .mov (.c (.bool false))⟩])
 (.seq (.test false [
    ⟨.push, 6, none, .mov (.v 0)⟩,
    ⟨.push, 7, none, .len false (.s 0)⟩,
    ⟨.push, 8, none, .mov (.v 1)⟩,
    ⟨.push, 9, none, .len false (.s 0)⟩,
    ⟨.push, 10, none, .bin false .neq (.s 2) (.s 0)⟩] (.s 0)
  (.seq (.region false [
      ⟨.var 2, 4, none, .mov (.c (.bool false))⟩])
   (.ret))
  (.skip))
 (.seq (.seq (.region false [
     ⟨.var 3, 5, none, .mov (.c (.int .i64 (0)))⟩])
  (.block 0 (.loop ir42_k0 ir42_o0 ir42_r0 ir42_b0)))
 (.seq (.region false [
    ⟨.var 2, 4, none, .mov (.c (.bool true))⟩])
 (.ret)))), [.t 2]⟩
noncomputable def t_spec_SameStars : List (Nat × Ctr) := []
noncomputable def c_spec_SameStars : Ctr := mkF t_spec_SameStars ir42 [.bor, .bor]
theorem s_spec_SameStars : Sound Try.prog 42 c_spec_SameStars := mkF_sound _ rfl snd_nil (by kernel_rfl : chkFn Try.prog 42 ir42 ir42_v = true)
theorem M_spec_SameStars : c_spec_SameStars.modes = [.bor, .bor] := rfl
theorem Fl_spec_SameStars : c_spec_SameStars.flat = true := rfl
attribute [go_sem] M_spec_SameStars Fl_spec_SameStars
def E_spec_SameStars_l1 (a : List Star) (b : List Star) : Int → St
  | i => ⟨[.sl 5 (List.map Star_av a), .sl 5 (List.map Star_av b), .any, .int .i64 i], [], [], true⟩
def R_spec_SameStars_l1 (a : List Star) (b : List Star) : (Unit ⊕ Bool) → Res
  | .inl y => (.exit 0, ⟨[.any, .any, .any, .any], [], [], true⟩)
  | .inr y => (.ret, ⟨[.any, .any, .bool y, .any], [], [], true⟩)
theorem spec_SameStars_l1_ex {a : List Star} {b : List Star} {sgm_ : Int} {rho_ : Unit ⊕ Bool} (h : whileE (spec_SameStars_l1 a b) sgm_ = some rho_) : ∃ L0, ∀ L, L0 ≤ L → iter (exec (look t_spec_SameStars) L ir42_b0) ir42_k0 ir42_o0 ir42_r0 L (E_spec_SameStars_l1 a b sgm_) = R_spec_SameStars_l1 a b rho_ := by
  refine loop_ex (E := E_spec_SameStars_l1 a b) (R := R_spec_SameStars_l1 a b) (fun y => by first | (intro c; cases c) | (rcases y with y | y <;> (intro c; cases c)) | (rcases y with y | y | y <;> (intro c; cases c))) ?_ h
  clear h
  intro i o_ h
  dsimp only [spec_SameStars_l1] at h
  rcases it_some h with ⟨hk2, h⟩ | ⟨hk2, h⟩
  · try simp only [go_sem, n1, n2, n3, n4] at hk2
    all_goals
    obtain ⟨hk3, h⟩ := ck_some h
    have lhk3 := ix_lt hk3
    have xhk3 := getD_mapD Star_av a lhk3
    try simp only [go_sem] at lhk3
    try simp only [go_sem] at xhk3
    try simp only [go_sem, n1, n2, n3, n4, hk2] at hk3
    all_goals
    obtain ⟨hk4, h⟩ := ck_some h
    have lhk4 := ix_lt hk4
    have xhk4 := getD_mapD Star_av b lhk4
    try simp only [go_sem] at lhk4
    try simp only [go_sem] at xhk4
    try simp only [go_sem, n1, n2, n3, n4, hk2, hk3] at hk4
    all_goals
    rcases it_some h with ⟨hk5, h⟩ | ⟨hk5, h⟩
    · try simp only [go_sem, n1, n2, n3, n4, hk2, hk3, hk4] at hk5
      all_goals
      obtain rfl := so_some h
      refine ⟨0, fun L hL => ?_⟩
      simp only [go_sem, ir42, E_spec_SameStars_l1, R_spec_SameStars_l1, ir42_b0, ir42_k0, ir42_o0, ir42_r0, hk2, hk3, lhk3, xhk3, hk4, lhk4, xhk4, hk5]
    · try simp only [go_sem, n1, n2, n3, n4, hk2, hk3, hk4] at hk5
      all_goals
      obtain rfl := so_some h
      refine ⟨0, fun L hL => ?_⟩
      simp only [go_sem, ir42, E_spec_SameStars_l1, R_spec_SameStars_l1, ir42_b0, ir42_k0, ir42_o0, ir42_r0, hk2, hk3, lhk3, xhk3, hk4, lhk4, xhk4, hk5]
  · try simp only [go_sem, n1, n2, n3, n4] at hk2
    all_goals
    obtain rfl := so_some h
    refine ⟨0, fun L hL => ?_⟩
    simp only [go_sem, ir42, E_spec_SameStars_l1, R_spec_SameStars_l1, ir42_b0, ir42_k0, ir42_o0, ir42_r0, hk2]

theorem Fs_spec_SameStars {a : List Star} {b : List Star} {y_ : Bool} (h : spec_SameStars a b = some y_) : c_spec_SameStars.F [.sl 5 (List.map Star_av a), .sl 5 (List.map Star_av b)] = ⟨true, .bool y_, [.any, .any]⟩ := by
  refine mkF_E rfl ?_
  dsimp only [spec_SameStars] at h
  rcases it_some h with ⟨hk1, h⟩ | ⟨hk1, h⟩
  · try simp only [go_sem, n1, n2, n3, n4] at hk1
    all_goals
    obtain rfl := so_some h
    refine ⟨0, fun L hL => ?_⟩
    simp only [go_sem, ir42, E_spec_SameStars_l1, R_spec_SameStars_l1, ir42_k0, ir42_o0, ir42_r0, hk1]
  · try simp only [go_sem, n1, n2, n3, n4] at hk1
    all_goals
    obtain ⟨y_6, hk6, h⟩ := bd_some h
    obtain ⟨Lhk6, ehk6⟩ := spec_SameStars_l1_ex hk6
    rcases y_6 with y_6a | y_6b
    · dsimp only at h
      obtain rfl := so_some h
      refine ⟨Lhk6, fun L hL => ?_⟩
      have ehk6 := ehk6 L (by omega)
      try simp only [go_sem, E_spec_SameStars_l1, R_spec_SameStars_l1, ir42_k0, ir42_o0, ir42_r0] at ehk6
      simp only [go_sem, ir42, E_spec_SameStars_l1, R_spec_SameStars_l1, ir42_k0, ir42_o0, ir42_r0, hk1, ehk6]
    · dsimp only at h
      obtain rfl := so_some h
      refine ⟨Lhk6, fun L hL => ?_⟩
      have ehk6 := ehk6 L (by omega)
      try simp only [go_sem, E_spec_SameStars_l1, R_spec_SameStars_l1, ir42_k0, ir42_o0, ir42_r0] at ehk6
      simp only [go_sem, ir42, E_spec_SameStars_l1, R_spec_SameStars_l1, ir42_k0, ir42_o0, ir42_r0, hk1, ehk6]


def ir43_b0 : IR := .seq (.test false [
    ⟨.push, 11, none, .mov (.v 3)⟩,
    ⟨.push, 12, none, .mov (.v 0)⟩,
    ⟨.push, 13, none, .len false (.s 0)⟩,
    ⟨.push, 14, none, .bin false .lss (.s 2) (.s 0)⟩] (.s 0)
  (.skip)
  (.exit 0))
 (.seq (.block 1 (.anyo 9 [
     ⟨.slot 0, 17, none, .mov (.v 0)⟩,
     ⟨.slot 1, 18, none, .mov (.v 3)⟩,
     ⟨.slot 2, 19, none, .ixAddr 5 (.s 0) (.s 1)⟩,
     ⟨.slot 3, 20, none, .load true 5 (.s 2)⟩,
     ⟨.slot 4, 21, none, .mov (.v 1)⟩,
     ⟨.slot 5, 22, none, .mov (.v 3)⟩,
     ⟨.slot 6, 23, none, .ixAddr 5 (.s 4) (.s 5)⟩,
     ⟨.slot 7, 24, none, .load true 5 (.s 6)⟩,
     ⟨.slot 8, 25, none, .eqA true [1, 2, 2, 1, 0] (.s 3) (.s 7)⟩] [] (.cond (.s 8)
   (.seq (.region false [
       ⟨.var 2, 4, none, .mov (.c (.bool false))⟩])
    (.ret))
   (.skip))))
 (.region false [
   ⟨.push, 15, none, .mov (.v 3)⟩,
   ⟨.push, 16, none, .bin false .add (.s 0) (.c (.int .i64 (1)))⟩,
   ⟨.var 3, 5, none, .mov (.s 0)⟩]))
def ir43_k0 : List Bool := [true, true, false, true]
def ir43_o0 : List Bool := [false, false, false, false]
def ir43_r0 : List Bool := [false, false, true, false]
def ir43_v : List Nat := [0, 1, 4, 5]
def ir43 : AFn := ⟨2, 4, .seq (.region false [
    ⟨.var 2, 4, none, .mov (.c (.bool false))⟩])
 (.seq (.test false [
    ⟨.push, 6, none, .mov (.v 0)⟩,
    ⟨.push, 7, none, .len false (.s 0)⟩,
    ⟨.push, 8, none, .mov (.v 1)⟩,
    ⟨.push, 9, none, .len false (.s 0)⟩,
    ⟨.push, 10, none, .bin false .neq (.s 2) (.s 0)⟩] (.s 0)
  (.seq (.region false [
      ⟨.var 2, 4, none, .mov (.c (.bool false))⟩])
   (.ret))
  (.skip))
 (.seq (.seq (.region false [
     ⟨.var 3, 5, none, .mov (.c (.int .i64 (0)))⟩])
  (.block 0 (.loop ir43_k0 ir43_o0 ir43_r0 ir43_b0)))
 (.seq (.region false [
    ⟨.var 2, 4, none, .mov (.c (.bool true))⟩])
 (.ret)))), [.t 2]⟩
noncomputable def t_spec_SameEstimates : List (Nat × Ctr) := []
noncomputable def c_spec_SameEstimates : Ctr := mkF t_spec_SameEstimates ir43 [.bor, .bor]
theorem s_spec_SameEstimates : Sound Try.prog 43 c_spec_SameEstimates := mkF_sound _ rfl snd_nil (by kernel_rfl : chkFn Try.prog 43 ir43 ir43_v = true)
theorem M_spec_SameEstimates : c_spec_SameEstimates.modes = [.bor, .bor] := rfl
theorem Fl_spec_SameEstimates : c_spec_SameEstimates.flat = true := rfl
attribute [go_sem] M_spec_SameEstimates Fl_spec_SameEstimates
def E_spec_SameEstimates_l1 (a : List Estimate) (b : List Estimate) : Int → St
  | i => ⟨[.sl 5 (List.map Estimate_av a), .sl 5 (List.map Estimate_av b), .any, .int .i64 i], [], [], true⟩
def R_spec_SameEstimates_l1 (a : List Estimate) (b : List Estimate) : (Unit ⊕ Bool) → Res
  | .inl y => (.exit 0, ⟨[.any, .any, .any, .any], [], [], true⟩)
  | .inr y => (.ret, ⟨[.any, .any, .bool y, .any], [], [], true⟩)
theorem spec_SameEstimates_l1_ex {a : List Estimate} {b : List Estimate} {sgm_ : Int} {rho_ : Unit ⊕ Bool} (h : whileE (spec_SameEstimates_l1 a b) sgm_ = some rho_) : ∃ L0, ∀ L, L0 ≤ L → iter (exec (look t_spec_SameEstimates) L ir43_b0) ir43_k0 ir43_o0 ir43_r0 L (E_spec_SameEstimates_l1 a b sgm_) = R_spec_SameEstimates_l1 a b rho_ := by
  refine loop_ex (E := E_spec_SameEstimates_l1 a b) (R := R_spec_SameEstimates_l1 a b) (fun y => by first | (intro c; cases c) | (rcases y with y | y <;> (intro c; cases c)) | (rcases y with y | y | y <;> (intro c; cases c))) ?_ h
  clear h
  intro i o_ h
  dsimp only [spec_SameEstimates_l1] at h
  rcases it_some h with ⟨hk2, h⟩ | ⟨hk2, h⟩
  · try simp only [go_sem, n1, n2, n3, n4] at hk2
    all_goals
    obtain ⟨hk3, h⟩ := ck_some h
    have lhk3 := ix_lt hk3
    have xhk3 := getD_mapD Estimate_av a lhk3
    try simp only [go_sem] at lhk3
    try simp only [go_sem] at xhk3
    try simp only [go_sem, n1, n2, n3, n4, hk2] at hk3
    all_goals
    obtain ⟨hk4, h⟩ := ck_some h
    have lhk4 := ix_lt hk4
    have xhk4 := getD_mapD Estimate_av b lhk4
    try simp only [go_sem] at lhk4
    try simp only [go_sem] at xhk4
    try simp only [go_sem, n1, n2, n3, n4, hk2, hk3] at hk4
    all_goals
    rcases it_some h with ⟨hk5, h⟩ | ⟨hk5, h⟩
    · try simp only [go_sem, n1, n2, n3, n4, hk2, hk3, hk4] at hk5
      all_goals
      obtain rfl := so_some h
      refine ⟨0, fun L hL => ?_⟩
      simp only [go_sem, ir43, E_spec_SameEstimates_l1, R_spec_SameEstimates_l1, ir43_b0, ir43_k0, ir43_o0, ir43_r0, hk2, hk3, lhk3, xhk3, hk4, lhk4, xhk4, hk5]
    · try simp only [go_sem, n1, n2, n3, n4, hk2, hk3, hk4] at hk5
      all_goals
      obtain rfl := so_some h
      refine ⟨0, fun L hL => ?_⟩
      simp only [go_sem, ir43, E_spec_SameEstimates_l1, R_spec_SameEstimates_l1, ir43_b0, ir43_k0, ir43_o0, ir43_r0, hk2, hk3, lhk3, xhk3, hk4, lhk4, xhk4, hk5]
  · try simp only [go_sem, n1, n2, n3, n4] at hk2
    all_goals
    obtain rfl := so_some h
    refine ⟨0, fun L hL => ?_⟩
    simp only [go_sem, ir43, E_spec_SameEstimates_l1, R_spec_SameEstimates_l1, ir43_b0, ir43_k0, ir43_o0, ir43_r0, hk2]

theorem Fs_spec_SameEstimates {a : List Estimate} {b : List Estimate} {y_ : Bool} (h : spec_SameEstimates a b = some y_) : c_spec_SameEstimates.F [.sl 5 (List.map Estimate_av a), .sl 5 (List.map Estimate_av b)] = ⟨true, .bool y_, [.any, .any]⟩ := by
  refine mkF_E rfl ?_
  dsimp only [spec_SameEstimates] at h
  rcases it_some h with ⟨hk1, h⟩ | ⟨hk1, h⟩
  · try simp only [go_sem, n1, n2, n3, n4] at hk1
    all_goals
    obtain rfl := so_some h
    refine ⟨0, fun L hL => ?_⟩
    simp only [go_sem, ir43, E_spec_SameEstimates_l1, R_spec_SameEstimates_l1, ir43_k0, ir43_o0, ir43_r0, hk1]
  · try simp only [go_sem, n1, n2, n3, n4] at hk1
    all_goals
    obtain ⟨y_6, hk6, h⟩ := bd_some h
    obtain ⟨Lhk6, ehk6⟩ := spec_SameEstimates_l1_ex hk6
    rcases y_6 with y_6a | y_6b
    · dsimp only at h
      obtain rfl := so_some h
      refine ⟨Lhk6, fun L hL => ?_⟩
      have ehk6 := ehk6 L (by omega)
      try simp only [go_sem, E_spec_SameEstimates_l1, R_spec_SameEstimates_l1, ir43_k0, ir43_o0, ir43_r0] at ehk6
      simp only [go_sem, ir43, E_spec_SameEstimates_l1, R_spec_SameEstimates_l1, ir43_k0, ir43_o0, ir43_r0, hk1, ehk6]
    · dsimp only at h
      obtain rfl := so_some h
      refine ⟨Lhk6, fun L hL => ?_⟩
      have ehk6 := ehk6 L (by omega)
      try simp only [go_sem, E_spec_SameEstimates_l1, R_spec_SameEstimates_l1, ir43_k0, ir43_o0, ir43_r0] at ehk6
      simp only [go_sem, ir43, E_spec_SameEstimates_l1, R_spec_SameEstimates_l1, ir43_k0, ir43_o0, ir43_r0, hk1, ehk6]


def ir22_v : List Nat := [0, 1, 2, 3, 4]
def ir22 : AFn := ⟨2, 5, .seq (.region false [
    ⟨.var 2, 2, none, .box (.v 0)⟩,
    ⟨.var 3, 3, none, .box (.v 1)⟩,
    ⟨.var 4, 4, none, .mov (.c (.bool false))⟩])
 (.seq (.region false [
    ⟨.push, 5, none, .fldAddr 0 (.v 2)⟩,
    ⟨.push, 6, none, .load false 1 (.s 0)⟩,
    ⟨.push, 7, none, .fldAddr 0 (.v 3)⟩,
    ⟨.push, 8, none, .load false 1 (.s 0)⟩,
    ⟨.push, 9, none, .call 42 [(.s 2), (.s 0)]⟩,
    ⟨.push, 10, none, .mov (.s 0)⟩,
    ⟨.push, 11, (some ((.s 0), true)), .fldAddr 1 (.v 2)⟩,
    ⟨.push, 12, (some ((.s 1), true)), .load false 1 (.s 0)⟩,
    ⟨.push, 13, (some ((.s 2), true)), .fldAddr 1 (.v 3)⟩,
    ⟨.push, 14, (some ((.s 3), true)), .load false 1 (.s 0)⟩,
    ⟨.push, 15, (some ((.s 4), true)), .call 43 [(.s 2), (.s 0)]⟩,
    ⟨.push, 16, none, .pick (.s 5) (.s 0) (.c (.bool false))⟩,
    ⟨.push, 17, none, .mov (.s 0)⟩,
    ⟨.push, 18, (some ((.s 0), true)), .fldAddr 2 (.v 2)⟩,
    ⟨.push, 19, (some ((.s 1), true)), .load false 1 (.s 0)⟩,
    ⟨.push, 20, (some ((.s 2), true)), .fldAddr 2 (.v 3)⟩,
    ⟨.push, 21, (some ((.s 3), true)), .load false 1 (.s 0)⟩,
    ⟨.push, 22, (some ((.s 4), true)), .bin false .eql (.s 2) (.s 0)⟩,
    ⟨.push, 23, none, .pick (.s 5) (.s 0) (.c (.bool false))⟩,
    ⟨.var 4, 4, none, .mov (.s 0)⟩])
 (.ret)), [.t 4]⟩
noncomputable def t_spec_SameDesk : List (Nat × Ctr) := [(42, c_spec_SameStars), (43, c_spec_SameEstimates)]
theorem lk_spec_SameDesk_42 : look t_spec_SameDesk 42 = some c_spec_SameStars := rfl
theorem lk_spec_SameDesk_43 : look t_spec_SameDesk 43 = some c_spec_SameEstimates := rfl
noncomputable def c_spec_SameDesk : Ctr := mkF t_spec_SameDesk ir22 [.bor, .bor]
theorem s_spec_SameDesk : Sound Try.prog 22 c_spec_SameDesk := mkF_sound _ rfl (snd_cons s_spec_SameStars (snd_cons s_spec_SameEstimates snd_nil)) (by kernel_rfl : chkFn Try.prog 22 ir22 ir22_v = true)
theorem M_spec_SameDesk : c_spec_SameDesk.modes = [.bor, .bor] := rfl
theorem Fl_spec_SameDesk : c_spec_SameDesk.flat = true := rfl
attribute [go_sem] M_spec_SameDesk Fl_spec_SameDesk
attribute [go_sem] lk_spec_SameDesk_42 lk_spec_SameDesk_43
theorem Fs_spec_SameDesk {a : Desk} {b : Desk} {y_ : Bool} (h : spec_SameDesk a b = some y_) : c_spec_SameDesk.F [Desk_av a, Desk_av b] = ⟨true, .bool y_, [.any, .any]⟩ := by
  refine mkF_E rfl ?_
  dsimp only [spec_SameDesk] at h
  obtain ⟨y_1, hk1, h⟩ := bd_some h
  have fhk1 := Fs_spec_SameStars hk1
  try simp only [go_sem] at fhk1
  obtain ⟨hk2, h⟩ := ck_some h
  rcases or_split hk2 with ⟨ghk2, hk2⟩ | ghk2
  · try simp only [go_sem, n1, n2, n3, n4] at ghk2
    all_goals
    obtain ⟨y_2, hhk2⟩ := Option.isSome_iff_exists.1 hk2
    have fhk2 := Fs_spec_SameEstimates hhk2
    try simp only [go_sem] at fhk2
    obtain rfl := so_some h
    refine ⟨0, fun L hL => ?_⟩
    simp only [go_sem, ir22, fhk1, ghk2, hhk2, fhk2]
  · try simp only [go_sem, n1, n2, n3, n4] at ghk2
    all_goals
    obtain rfl := so_some h
    refine ⟨0, fun L hL => ?_⟩
    simp only [go_sem, ir22, fhk1, ghk2]


def ir67_v : List Nat := [0, 1, 2, 3, 4]
def ir67 : AFn := ⟨2, 5, .seq (.region false [
    ⟨.var 2, 2, none, .box (.v 0)⟩,
    ⟨.var 3, 3, none, .box (.v 1)⟩,
    ⟨.var 4, 4, none, .mov (.c (.bool false))⟩])
 (.seq (.test false [
    ⟨.push, 5, none, .fldAddr 0 (.v 2)⟩,
    ⟨.push, 6, none, .load false 1 (.s 0)⟩,
    ⟨.push, 7, none, .fldAddr 0 (.v 3)⟩,
    ⟨.push, 8, none, .load false 1 (.s 0)⟩,
    ⟨.push, 9, none, .bin false .neq (.s 2) (.s 0)⟩] (.s 0)
  (.seq (.region false [
      ⟨.var 4, 4, none, .mov (.c (.bool false))⟩])
   (.ret))
  (.skip))
 (.seq (.test false [
    ⟨.push, 10, none, .fldAddr 1 (.v 2)⟩,
    ⟨.push, 11, none, .load false 1 (.s 0)⟩,
    ⟨.push, 12, none, .fldAddr 1 (.v 3)⟩,
    ⟨.push, 13, none, .load false 1 (.s 0)⟩,
    ⟨.push, 14, none, .bin false .neq (.s 2) (.s 0)⟩] (.s 0)
  (.seq (.region false [
      ⟨.var 4, 4, none, .mov (.c (.bool false))⟩])
   (.ret))
  (.skip))
 (.seq (.test false [
    ⟨.push, 15, none, .fldAddr 2 (.v 2)⟩,
    ⟨.push, 16, none, .load false 1 (.s 0)⟩,
    ⟨.push, 17, none, .fldAddr 2 (.v 3)⟩,
    ⟨.push, 18, none, .load false 1 (.s 0)⟩,
    ⟨.push, 19, none, .bin false .neq (.s 2) (.s 0)⟩] (.s 0)
  (.seq (.region false [
      ⟨.var 4, 4, none, .mov (.c (.bool false))⟩])
   (.ret))
  (.skip))
 (.seq (.test false [
    ⟨.push, 20, none, .fldAddr 3 (.v 2)⟩,
    ⟨.push, 21, none, .load false 1 (.s 0)⟩,
    ⟨.push, 22, none, .fldAddr 3 (.v 3)⟩,
    ⟨.push, 23, none, .load false 1 (.s 0)⟩,
    ⟨.push, 24, none, .bin false .neq (.s 2) (.s 0)⟩] (.s 0)
  (.seq (.region false [
      ⟨.var 4, 4, none, .mov (.c (.bool false))⟩])
   (.ret))
  (.skip))
 (.seq (.test false [
    ⟨.push, 25, none, .fldAddr 4 (.v 2)⟩,
    ⟨.push, 26, none, .load false 1 (.s 0)⟩,
    ⟨.push, 27, none, .fldAddr 4 (.v 3)⟩,
    ⟨.push, 28, none, .load false 1 (.s 0)⟩,
    ⟨.push, 29, none, .bin false .neq (.s 2) (.s 0)⟩] (.s 0)
  (.seq (.region false [
      ⟨.var 4, 4, none, .mov (.c (.bool false))⟩])
   (.ret))
  (.skip))
 (.seq (.region false [
    ⟨.var 4, 4, none, .mov (.c (.bool true))⟩])
 (.ret))))))), [.t 4]⟩
noncomputable def t_laws_eqStar : List (Nat × Ctr) := []
noncomputable def c_laws_eqStar : Ctr := mkF t_laws_eqStar ir67 [.bor, .bor]
theorem s_laws_eqStar : Sound Try.prog 67 c_laws_eqStar := mkF_sound _ rfl snd_nil (by kernel_rfl : chkFn Try.prog 67 ir67 ir67_v = true)
theorem M_laws_eqStar : c_laws_eqStar.modes = [.bor, .bor] := rfl
theorem Fl_laws_eqStar : c_laws_eqStar.flat = true := rfl
attribute [go_sem] M_laws_eqStar Fl_laws_eqStar
theorem Fs_laws_eqStar {a : Star} {b : Star} {y_ : Bool} (h : laws_eqStar a b = some y_) : c_laws_eqStar.F [Star_av a, Star_av b] = ⟨true, .bool y_, [.any, .any]⟩ := by
  refine mkF_E rfl ?_
  dsimp only [laws_eqStar] at h
  rcases it_some h with ⟨hk1, h⟩ | ⟨hk1, h⟩
  · try simp only [go_sem, n1, n2, n3, n4] at hk1
    all_goals
    obtain rfl := so_some h
    refine ⟨0, fun L hL => ?_⟩
    simp only [go_sem, ir67, hk1]
  · try simp only [go_sem, n1, n2, n3, n4] at hk1
    all_goals
    rcases it_some h with ⟨hk2, h⟩ | ⟨hk2, h⟩
    · try simp only [go_sem, n1, n2, n3, n4, hk1] at hk2
      all_goals
      obtain rfl := so_some h
      refine ⟨0, fun L hL => ?_⟩
      simp only [go_sem, ir67, hk1, hk2]
    · try simp only [go_sem, n1, n2, n3, n4, hk1] at hk2
      all_goals
      rcases it_some h with ⟨hk3, h⟩ | ⟨hk3, h⟩
      · try simp only [go_sem, n1, n2, n3, n4, hk1, hk2] at hk3
        all_goals
        obtain rfl := so_some h
        refine ⟨0, fun L hL => ?_⟩
        simp only [go_sem, ir67, hk1, hk2, hk3]
      · try simp only [go_sem, n1, n2, n3, n4, hk1, hk2] at hk3
        all_goals
        rcases it_some h with ⟨hk4, h⟩ | ⟨hk4, h⟩
        · try simp only [go_sem, n1, n2, n3, n4, hk1, hk2, hk3] at hk4
          all_goals
          obtain rfl := so_some h
          refine ⟨0, fun L hL => ?_⟩
          simp only [go_sem, ir67, hk1, hk2, hk3, hk4]
        · try simp only [go_sem, n1, n2, n3, n4, hk1, hk2, hk3] at hk4
          all_goals
          rcases it_some h with ⟨hk5, h⟩ | ⟨hk5, h⟩
          · try simp only [go_sem, n1, n2, n3, n4, hk1, hk2, hk3, hk4] at hk5
            all_goals
            obtain rfl := so_some h
            refine ⟨0, fun L hL => ?_⟩
            simp only [go_sem, ir67, hk1, hk2, hk3, hk4, hk5]
          · try simp only [go_sem, n1, n2, n3, n4, hk1, hk2, hk3, hk4] at hk5
            all_goals
            obtain rfl := so_some h
            refine ⟨0, fun L hL => ?_⟩
            simp only [go_sem, ir67, hk1, hk2, hk3, hk4, hk5]


def ir48_b0 : IR := .seq (.test false [
    ⟨.push, 11, none, .mov (.v 3)⟩,
    ⟨.push, 12, none, .mov (.v 0)⟩,
    ⟨.push, 13, none, .len false (.s 0)⟩,
    ⟨.push, 14, none, .bin false .lss (.s 2) (.s 0)⟩] (.s 0)
  (.skip)
  (.exit 0))
 (.seq (.block 1 (.anyo 10 [
     ⟨.slot 0, 17, none, .mov (.v 0)⟩,
     ⟨.slot 1, 18, none, .mov (.v 3)⟩,
     ⟨.slot 2, 19, none, .ixAddr 5 (.s 0) (.s 1)⟩,
     ⟨.slot 3, 20, none, .load true 5 (.s 2)⟩,
     ⟨.slot 4, 21, none, .mov (.v 1)⟩,
     ⟨.slot 5, 22, none, .mov (.v 3)⟩,
     ⟨.slot 6, 23, none, .ixAddr 5 (.s 4) (.s 5)⟩,
     ⟨.slot 7, 24, none, .load true 5 (.s 6)⟩,
     ⟨.slot 8, 25, none, .callp 67 [(.s 3), (.s 7)]⟩,
     ⟨.slot 9, 26, none, .un .not (.s 8)⟩] [] (.cond (.s 9)
   (.seq (.region false [
       ⟨.var 2, 4, none, .mov (.c (.bool false))⟩])
    (.ret))
   (.skip))))
 (.region false [
   ⟨.push, 15, none, .mov (.v 3)⟩,
   ⟨.push, 16, none, .bin false .add (.s 0) (.c (.int .i64 (1)))⟩,
   ⟨.var 3, 5, none, .mov (.s 0)⟩]))
def ir48_k0 : List Bool := [true, true, false, true]
def ir48_o0 : List Bool := [false, false, false, false]
def ir48_r0 : List Bool := [false, false, true, false]
def ir48_v : List Nat := [0, 1, 4, 5]
def ir48 : AFn := ⟨2, 4, .seq (.region false [
    ⟨.var 2, 4, none, .mov (.c (.bool false))⟩])
 (.seq (.test false [
    ⟨.push, 6, none, .mov (.v 0)⟩,
    ⟨.push, 7, none, .len false (.s 0)⟩,
    ⟨.push, 8, none, .mov (.v 1)⟩,
    ⟨.push, 9, none, .len false (.s 0)⟩,
    ⟨.push, 10, none, .bin false .neq (.s 2) (.s 0)⟩] (.s 0)
  (.seq (.region false [
      ⟨.var 2, 4, none, .mov (.c (.bool false))⟩])
   (.ret))
  (.skip))
 (.seq (.seq (.region false [
     ⟨.var 3, 5, none, .mov (.c (.int .i64 (0)))⟩])
  (.block 0 (.loop ir48_k0 ir48_o0 ir48_r0 ir48_b0)))
 (.seq (.region false [
    ⟨.var 2, 4, none, .mov (.c (.bool true))⟩])
 (.ret)))), [.t 2]⟩
noncomputable def t_laws_eqStarS : List (Nat × Ctr) := [(67, c_laws_eqStar)]
theorem lk_laws_eqStarS_67 : look t_laws_eqStarS 67 = some c_laws_eqStar := rfl
noncomputable def c_laws_eqStarS : Ctr := mkF t_laws_eqStarS ir48 [.bor, .bor]
theorem s_laws_eqStarS : Sound Try.prog 48 c_laws_eqStarS := mkF_sound _ rfl (snd_cons s_laws_eqStar snd_nil) (by kernel_rfl : chkFn Try.prog 48 ir48 ir48_v = true)
theorem M_laws_eqStarS : c_laws_eqStarS.modes = [.bor, .bor] := rfl
theorem Fl_laws_eqStarS : c_laws_eqStarS.flat = true := rfl
attribute [go_sem] M_laws_eqStarS Fl_laws_eqStarS
attribute [go_sem] lk_laws_eqStarS_67
def E_laws_eqStarS_l1 (a : List Star) (b : List Star) : Int → St
  | i => ⟨[.sl 5 (List.map Star_av a), .sl 5 (List.map Star_av b), .any, .int .i64 i], [], [], true⟩
def R_laws_eqStarS_l1 (a : List Star) (b : List Star) : (Unit ⊕ Bool) → Res
  | .inl y => (.exit 0, ⟨[.any, .any, .any, .any], [], [], true⟩)
  | .inr y => (.ret, ⟨[.any, .any, .bool y, .any], [], [], true⟩)
theorem laws_eqStarS_l1_ex {a : List Star} {b : List Star} {sgm_ : Int} {rho_ : Unit ⊕ Bool} (h : whileE (laws_eqStarS_l1 a b) sgm_ = some rho_) : ∃ L0, ∀ L, L0 ≤ L → iter (exec (look t_laws_eqStarS) L ir48_b0) ir48_k0 ir48_o0 ir48_r0 L (E_laws_eqStarS_l1 a b sgm_) = R_laws_eqStarS_l1 a b rho_ := by
  refine loop_ex (E := E_laws_eqStarS_l1 a b) (R := R_laws_eqStarS_l1 a b) (fun y => by first | (intro c; cases c) | (rcases y with y | y <;> (intro c; cases c)) | (rcases y with y | y | y <;> (intro c; cases c))) ?_ h
  clear h
  intro i o_ h
  dsimp only [laws_eqStarS_l1] at h
  rcases it_some h with ⟨hk2, h⟩ | ⟨hk2, h⟩
  · try simp only [go_sem, n1, n2, n3, n4] at hk2
    all_goals
    obtain ⟨hk3, h⟩ := ck_some h
    have lhk3 := ix_lt hk3
    have xhk3 := getD_mapD Star_av a lhk3
    try simp only [go_sem] at lhk3
    try simp only [go_sem] at xhk3
    try simp only [go_sem, n1, n2, n3, n4, hk2] at hk3
    all_goals
    obtain ⟨hk4, h⟩ := ck_some h
    have lhk4 := ix_lt hk4
    have xhk4 := getD_mapD Star_av b lhk4
    try simp only [go_sem] at lhk4
    try simp only [go_sem] at xhk4
    try simp only [go_sem, n1, n2, n3, n4, hk2, hk3] at hk4
    all_goals
    obtain ⟨y_5, hk5, h⟩ := bd_some h
    have fhk5 := Fs_laws_eqStar hk5
    try simp only [go_sem] at fhk5
    rcases it_some h with ⟨hk6, h⟩ | ⟨hk6, h⟩
    · try simp only [go_sem, n1, n2, n3, n4, hk2, hk3, hk4] at hk6
      all_goals
      obtain rfl := so_some h
      refine ⟨0, fun L hL => ?_⟩
      simp only [go_sem, ir48, E_laws_eqStarS_l1, R_laws_eqStarS_l1, ir48_b0, ir48_k0, ir48_o0, ir48_r0, hk2, hk3, lhk3, xhk3, hk4, lhk4, xhk4, fhk5, hk6]
    · try simp only [go_sem, n1, n2, n3, n4, hk2, hk3, hk4] at hk6
      all_goals
      obtain rfl := so_some h
      refine ⟨0, fun L hL => ?_⟩
      simp only [go_sem, ir48, E_laws_eqStarS_l1, R_laws_eqStarS_l1, ir48_b0, ir48_k0, ir48_o0, ir48_r0, hk2, hk3, lhk3, xhk3, hk4, lhk4, xhk4, fhk5, hk6]
  · try simp only [go_sem, n1, n2, n3, n4] at hk2
    all_goals
    obtain rfl := so_some h
    refine ⟨0, fun L hL => ?_⟩
    simp only [go_sem, ir48, E_laws_eqStarS_l1, R_laws_eqStarS_l1, ir48_b0, ir48_k0, ir48_o0, ir48_r0, hk2]

theorem Fs_laws_eqStarS {a : List Star} {b : List Star} {y_ : Bool} (h : laws_eqStarS a b = some y_) : c_laws_eqStarS.F [.sl 5 (List.map Star_av a), .sl 5 (List.map Star_av b)] = ⟨true, .bool y_, [.any, .any]⟩ := by
  refine mkF_E rfl ?_
  dsimp only [laws_eqStarS] at h
  rcases it_some h with ⟨hk1, h⟩ | ⟨hk1, h⟩
  · try simp only [go_sem, n1, n2, n3, n4] at hk1
    all_goals
    obtain rfl := so_some h
    refine ⟨0, fun L hL => ?_⟩
    simp only [go_sem, ir48, E_laws_eqStarS_l1, R_laws_eqStarS_l1, ir48_k0, ir48_o0, ir48_r0, hk1]
  · try simp only [go_sem, n1, n2, n3, n4] at hk1
    all_goals
    obtain ⟨y_7, hk7, h⟩ := bd_some h
    obtain ⟨Lhk7, ehk7⟩ := laws_eqStarS_l1_ex hk7
    rcases y_7 with y_7a | y_7b
    · dsimp only at h
      obtain rfl := so_some h
      refine ⟨Lhk7, fun L hL => ?_⟩
      have ehk7 := ehk7 L (by omega)
      try simp only [go_sem, E_laws_eqStarS_l1, R_laws_eqStarS_l1, ir48_k0, ir48_o0, ir48_r0] at ehk7
      simp only [go_sem, ir48, E_laws_eqStarS_l1, R_laws_eqStarS_l1, ir48_k0, ir48_o0, ir48_r0, hk1, ehk7]
    · dsimp only at h
      obtain rfl := so_some h
      refine ⟨Lhk7, fun L hL => ?_⟩
      have ehk7 := ehk7 L (by omega)
      try simp only [go_sem, E_laws_eqStarS_l1, R_laws_eqStarS_l1, ir48_k0, ir48_o0, ir48_r0] at ehk7
      simp only [go_sem, ir48, E_laws_eqStarS_l1, R_laws_eqStarS_l1, ir48_k0, ir48_o0, ir48_r0, hk1, ehk7]


def ir68_v : List Nat := [0, 1, 2, 3, 4]
def ir68 : AFn := ⟨2, 5, .seq (.region false [
    ⟨.var 2, 2, none, .box (.v 0)⟩,
    ⟨.var 3, 3, none, .box (.v 1)⟩,
    ⟨.var 4, 4, none, .mov (.c (.bool false))⟩])
 (.seq (.test false [
    ⟨.push, 5, none, .fldAddr 0 (.v 2)⟩,
    ⟨.push, 6, none, .load false 1 (.s 0)⟩,
    ⟨.push, 7, none, .fldAddr 0 (.v 3)⟩,
    ⟨.push, 8, none, .load false 1 (.s 0)⟩,
    ⟨.push, 9, none, .bin false .neq (.s 2) (.s 0)⟩] (.s 0)
  (.seq (.region false [
      ⟨.var 4, 4, none, .mov (.c (.bool false))⟩])
   (.ret))
  (.skip))
 (.seq (.test false [
    ⟨.push, 10, none, .fldAddr 1 (.v 2)⟩,
    ⟨.push, 11, none, .load false 1 (.s 0)⟩,
    ⟨.push, 12, none, .fldAddr 1 (.v 3)⟩,
    ⟨.push, 13, none, .load false 1 (.s 0)⟩,
    ⟨.push, 14, none, .bin false .neq (.s 2) (.s 0)⟩] (.s 0)
  (.seq (.region false [
      ⟨.var 4, 4, none, .mov (.c (.bool false))⟩])
   (.ret))
  (.skip))
 (.seq (.test false [
    ⟨.push, 15, none, .fldAddr 2 (.v 2)⟩,
    ⟨.push, 16, none, .load false 1 (.s 0)⟩,
    ⟨.push, 17, none, .fldAddr 2 (.v 3)⟩,
    ⟨.push, 18, none, .load false 1 (.s 0)⟩,
    ⟨.push, 19, none, .bin false .neq (.s 2) (.s 0)⟩] (.s 0)
  (.seq (.region false [
      ⟨.var 4, 4, none, .mov (.c (.bool false))⟩])
   (.ret))
  (.skip))
 (.seq (.test false [
    ⟨.push, 20, none, .fldAddr 3 (.v 2)⟩,
    ⟨.push, 21, none, .load false 1 (.s 0)⟩,
    ⟨.push, 22, none, .fldAddr 3 (.v 3)⟩,
    ⟨.push, 23, none, .load false 1 (.s 0)⟩,
    ⟨.push, 24, none, .bin false .neq (.s 2) (.s 0)⟩] (.s 0)
  (.seq (.region false [
      ⟨.var 4, 4, none, .mov (.c (.bool false))⟩])
   (.ret))
  (.skip))
 (.seq (.test false [
    ⟨.push, 25, none, .fldAddr 4 (.v 2)⟩,
    ⟨.push, 26, none, .load false 1 (.s 0)⟩,
    ⟨.push, 27, none, .fldAddr 4 (.v 3)⟩,
    ⟨.push, 28, none, .load false 1 (.s 0)⟩,
    ⟨.push, 29, none, .bin true .neq (.s 2) (.s 0)⟩] (.s 0)
  (.seq (.region false [
      ⟨.var 4, 4, none, .mov (.c (.bool false))⟩])
   (.ret))
  (.skip))
 (.seq (.region false [
    ⟨.var 4, 4, none, .mov (.c (.bool true))⟩])
 (.ret))))))), [.t 4]⟩
noncomputable def t_laws_eqEstimate : List (Nat × Ctr) := []
noncomputable def c_laws_eqEstimate : Ctr := mkF t_laws_eqEstimate ir68 [.bor, .bor]
theorem s_laws_eqEstimate : Sound Try.prog 68 c_laws_eqEstimate := mkF_sound _ rfl snd_nil (by kernel_rfl : chkFn Try.prog 68 ir68 ir68_v = true)
theorem M_laws_eqEstimate : c_laws_eqEstimate.modes = [.bor, .bor] := rfl
theorem Fl_laws_eqEstimate : c_laws_eqEstimate.flat = true := rfl
attribute [go_sem] M_laws_eqEstimate Fl_laws_eqEstimate
theorem Fs_laws_eqEstimate {a : Estimate} {b : Estimate} {y_ : Bool} (h : laws_eqEstimate a b = some y_) : c_laws_eqEstimate.F [Estimate_av a, Estimate_av b] = ⟨true, .bool y_, [.any, .any]⟩ := by
  refine mkF_E rfl ?_
  dsimp only [laws_eqEstimate] at h
  rcases it_some h with ⟨hk1, h⟩ | ⟨hk1, h⟩
  · try simp only [go_sem, n1, n2, n3, n4] at hk1
    all_goals
    obtain rfl := so_some h
    refine ⟨0, fun L hL => ?_⟩
    simp only [go_sem, ir68, hk1]
  · try simp only [go_sem, n1, n2, n3, n4] at hk1
    all_goals
    rcases it_some h with ⟨hk2, h⟩ | ⟨hk2, h⟩
    · try simp only [go_sem, n1, n2, n3, n4, hk1] at hk2
      all_goals
      obtain rfl := so_some h
      refine ⟨0, fun L hL => ?_⟩
      simp only [go_sem, ir68, hk1, hk2]
    · try simp only [go_sem, n1, n2, n3, n4, hk1] at hk2
      all_goals
      rcases it_some h with ⟨hk3, h⟩ | ⟨hk3, h⟩
      · try simp only [go_sem, n1, n2, n3, n4, hk1, hk2] at hk3
        all_goals
        obtain rfl := so_some h
        refine ⟨0, fun L hL => ?_⟩
        simp only [go_sem, ir68, hk1, hk2, hk3]
      · try simp only [go_sem, n1, n2, n3, n4, hk1, hk2] at hk3
        all_goals
        rcases it_some h with ⟨hk4, h⟩ | ⟨hk4, h⟩
        · try simp only [go_sem, n1, n2, n3, n4, hk1, hk2, hk3] at hk4
          all_goals
          obtain rfl := so_some h
          refine ⟨0, fun L hL => ?_⟩
          simp only [go_sem, ir68, hk1, hk2, hk3, hk4]
        · try simp only [go_sem, n1, n2, n3, n4, hk1, hk2, hk3] at hk4
          all_goals
          rcases it_some h with ⟨hk5, h⟩ | ⟨hk5, h⟩
          · try simp only [go_sem, n1, n2, n3, n4, hk1, hk2, hk3, hk4] at hk5
            all_goals
            obtain rfl := so_some h
            refine ⟨0, fun L hL => ?_⟩
            simp only [go_sem, ir68, hk1, hk2, hk3, hk4, hk5]
          · try simp only [go_sem, n1, n2, n3, n4, hk1, hk2, hk3, hk4] at hk5
            all_goals
            obtain rfl := so_some h
            refine ⟨0, fun L hL => ?_⟩
            simp only [go_sem, ir68, hk1, hk2, hk3, hk4, hk5]


def ir49_b0 : IR := .seq (.test false [
    ⟨.push, 11, none, .mov (.v 3)⟩,
    ⟨.push, 12, none, .mov (.v 0)⟩,
    ⟨.push, 13, none, .len false (.s 0)⟩,
    ⟨.push, 14, none, .bin false .lss (.s 2) (.s 0)⟩] (.s 0)
  (.skip)
  (.exit 0))
 (.seq (.block 1 (.anyo 10 [
     ⟨.slot 0, 17, none, .mov (.v 0)⟩,
     ⟨.slot 1, 18, none, .mov (.v 3)⟩,
     ⟨.slot 2, 19, none, .ixAddr 5 (.s 0) (.s 1)⟩,
     ⟨.slot 3, 20, none, .load true 5 (.s 2)⟩,
     ⟨.slot 4, 21, none, .mov (.v 1)⟩,
     ⟨.slot 5, 22, none, .mov (.v 3)⟩,
     ⟨.slot 6, 23, none, .ixAddr 5 (.s 4) (.s 5)⟩,
     ⟨.slot 7, 24, none, .load true 5 (.s 6)⟩,
     ⟨.slot 8, 25, none, .callp 68 [(.s 3), (.s 7)]⟩,
     ⟨.slot 9, 26, none, .un .not (.s 8)⟩] [] (.cond (.s 9)
   (.seq (.region false [
       ⟨.var 2, 4, none, .mov (.c (.bool false))⟩])
    (.ret))
   (.skip))))
 (.region false [
   ⟨.push, 15, none, .mov (.v 3)⟩,
   ⟨.push, 16, none, .bin false .add (.s 0) (.c (.int .i64 (1)))⟩,
   ⟨.var 3, 5, none, .mov (.s 0)⟩]))
def ir49_k0 : List Bool := [true, true, false, true]
def ir49_o0 : List Bool := [false, false, false, false]
def ir49_r0 : List Bool := [false, false, true, false]
def ir49_v : List Nat := [0, 1, 4, 5]
def ir49 : AFn := ⟨2, 4, .seq (.region false [
    ⟨.var 2, 4, none, .mov (.c (.bool false))⟩])
 (.seq (.test false [
    ⟨.push, 6, none, .mov (.v 0)⟩,
    ⟨.push, 7, none, .len false (.s 0)⟩,
    ⟨.push, 8, none, .mov (.v 1)⟩,
    ⟨.push, 9, none, .len false (.s 0)⟩,
    ⟨.push, 10, none, .bin false .neq (.s 2) (.s 0)⟩] (.s 0)
  (.seq (.region false [
      ⟨.var 2, 4, none, .mov (.c (.bool false))⟩])
   (.ret))
  (.skip))
 (.seq (.seq (.region false [
     ⟨.var 3, 5, none, .mov (.c (.int .i64 (0)))⟩])
  (.block 0 (.loop ir49_k0 ir49_o0 ir49_r0 ir49_b0)))
 (.seq (.region false [
    ⟨.var 2, 4, none, .mov (.c (.bool true))⟩])
 (.ret)))), [.t 2]⟩
noncomputable def t_laws_eqEstimateS : List (Nat × Ctr) := [(68, c_laws_eqEstimate)]
theorem lk_laws_eqEstimateS_68 : look t_laws_eqEstimateS 68 = some c_laws_eqEstimate := rfl
noncomputable def c_laws_eqEstimateS : Ctr := mkF t_laws_eqEstimateS ir49 [.bor, .bor]
theorem s_laws_eqEstimateS : Sound Try.prog 49 c_laws_eqEstimateS := mkF_sound _ rfl (snd_cons s_laws_eqEstimate snd_nil) (by kernel_rfl : chkFn Try.prog 49 ir49 ir49_v = true)
theorem M_laws_eqEstimateS : c_laws_eqEstimateS.modes = [.bor, .bor] := rfl
theorem Fl_laws_eqEstimateS : c_laws_eqEstimateS.flat = true := rfl
attribute [go_sem] M_laws_eqEstimateS Fl_laws_eqEstimateS
attribute [go_sem] lk_laws_eqEstimateS_68
def E_laws_eqEstimateS_l1 (a : List Estimate) (b : List Estimate) : Int → St
  | i => ⟨[.sl 5 (List.map Estimate_av a), .sl 5 (List.map Estimate_av b), .any, .int .i64 i], [], [], true⟩
def R_laws_eqEstimateS_l1 (a : List Estimate) (b : List Estimate) : (Unit ⊕ Bool) → Res
  | .inl y => (.exit 0, ⟨[.any, .any, .any, .any], [], [], true⟩)
  | .inr y => (.ret, ⟨[.any, .any, .bool y, .any], [], [], true⟩)
theorem laws_eqEstimateS_l1_ex {a : List Estimate} {b : List Estimate} {sgm_ : Int} {rho_ : Unit ⊕ Bool} (h : whileE (laws_eqEstimateS_l1 a b) sgm_ = some rho_) : ∃ L0, ∀ L, L0 ≤ L → iter (exec (look t_laws_eqEstimateS) L ir49_b0) ir49_k0 ir49_o0 ir49_r0 L (E_laws_eqEstimateS_l1 a b sgm_) = R_laws_eqEstimateS_l1 a b rho_ := by
  refine loop_ex (E := E_laws_eqEstimateS_l1 a b) (R := R_laws_eqEstimateS_l1 a b) (fun y => by first | (intro c; cases c) | (rcases y with y | y <;> (intro c; cases c)) | (rcases y with y | y | y <;> (intro c; cases c))) ?_ h
  clear h
  intro i o_ h
  dsimp only [laws_eqEstimateS_l1] at h
  rcases it_some h with ⟨hk2, h⟩ | ⟨hk2, h⟩
  · try simp only [go_sem, n1, n2, n3, n4] at hk2
    all_goals
    obtain ⟨hk3, h⟩ := ck_some h
    have lhk3 := ix_lt hk3
    have xhk3 := getD_mapD Estimate_av a lhk3
    try simp only [go_sem] at lhk3
    try simp only [go_sem] at xhk3
    try simp only [go_sem, n1, n2, n3, n4, hk2] at hk3
    all_goals
    obtain ⟨hk4, h⟩ := ck_some h
    have lhk4 := ix_lt hk4
    have xhk4 := getD_mapD Estimate_av b lhk4
    try simp only [go_sem] at lhk4
    try simp only [go_sem] at xhk4
    try simp only [go_sem, n1, n2, n3, n4, hk2, hk3] at hk4
    all_goals
    obtain ⟨y_5, hk5, h⟩ := bd_some h
    have fhk5 := Fs_laws_eqEstimate hk5
    try simp only [go_sem] at fhk5
    rcases it_some h with ⟨hk6, h⟩ | ⟨hk6, h⟩
    · try simp only [go_sem, n1, n2, n3, n4, hk2, hk3, hk4] at hk6
      all_goals
      obtain rfl := so_some h
      refine ⟨0, fun L hL => ?_⟩
      simp only [go_sem, ir49, E_laws_eqEstimateS_l1, R_laws_eqEstimateS_l1, ir49_b0, ir49_k0, ir49_o0, ir49_r0, hk2, hk3, lhk3, xhk3, hk4, lhk4, xhk4, fhk5, hk6]
    · try simp only [go_sem, n1, n2, n3, n4, hk2, hk3, hk4] at hk6
      all_goals
      obtain rfl := so_some h
      refine ⟨0, fun L hL => ?_⟩
      simp only [go_sem, ir49, E_laws_eqEstimateS_l1, R_laws_eqEstimateS_l1, ir49_b0, ir49_k0, ir49_o0, ir49_r0, hk2, hk3, lhk3, xhk3, hk4, lhk4, xhk4, fhk5, hk6]
  · try simp only [go_sem, n1, n2, n3, n4] at hk2
    all_goals
    obtain rfl := so_some h
    refine ⟨0, fun L hL => ?_⟩
    simp only [go_sem, ir49, E_laws_eqEstimateS_l1, R_laws_eqEstimateS_l1, ir49_b0, ir49_k0, ir49_o0, ir49_r0, hk2]

theorem Fs_laws_eqEstimateS {a : List Estimate} {b : List Estimate} {y_ : Bool} (h : laws_eqEstimateS a b = some y_) : c_laws_eqEstimateS.F [.sl 5 (List.map Estimate_av a), .sl 5 (List.map Estimate_av b)] = ⟨true, .bool y_, [.any, .any]⟩ := by
  refine mkF_E rfl ?_
  dsimp only [laws_eqEstimateS] at h
  rcases it_some h with ⟨hk1, h⟩ | ⟨hk1, h⟩
  · try simp only [go_sem, n1, n2, n3, n4] at hk1
    all_goals
    obtain rfl := so_some h
    refine ⟨0, fun L hL => ?_⟩
    simp only [go_sem, ir49, E_laws_eqEstimateS_l1, R_laws_eqEstimateS_l1, ir49_k0, ir49_o0, ir49_r0, hk1]
  · try simp only [go_sem, n1, n2, n3, n4] at hk1
    all_goals
    obtain ⟨y_7, hk7, h⟩ := bd_some h
    obtain ⟨Lhk7, ehk7⟩ := laws_eqEstimateS_l1_ex hk7
    rcases y_7 with y_7a | y_7b
    · dsimp only at h
      obtain rfl := so_some h
      refine ⟨Lhk7, fun L hL => ?_⟩
      have ehk7 := ehk7 L (by omega)
      try simp only [go_sem, E_laws_eqEstimateS_l1, R_laws_eqEstimateS_l1, ir49_k0, ir49_o0, ir49_r0] at ehk7
      simp only [go_sem, ir49, E_laws_eqEstimateS_l1, R_laws_eqEstimateS_l1, ir49_k0, ir49_o0, ir49_r0, hk1, ehk7]
    · dsimp only at h
      obtain rfl := so_some h
      refine ⟨Lhk7, fun L hL => ?_⟩
      have ehk7 := ehk7 L (by omega)
      try simp only [go_sem, E_laws_eqEstimateS_l1, R_laws_eqEstimateS_l1, ir49_k0, ir49_o0, ir49_r0] at ehk7
      simp only [go_sem, ir49, E_laws_eqEstimateS_l1, R_laws_eqEstimateS_l1, ir49_k0, ir49_o0, ir49_r0, hk1, ehk7]


def ir25_v : List Nat := [0, 1, 2, 3, 4]
def ir25 : AFn := ⟨2, 5, .seq (.region false [
    ⟨.var 2, 2, none, .box (.v 0)⟩,
    ⟨.var 3, 3, none, .box (.v 1)⟩,
    ⟨.var 4, 4, none, .mov (.c (.bool false))⟩])
 (.seq (.test false [
    ⟨.push, 5, none, .fldAddr 0 (.v 2)⟩,
    ⟨.push, 6, none, .load false 1 (.s 0)⟩,
    ⟨.push, 7, none, .fldAddr 0 (.v 3)⟩,
    ⟨.push, 8, none, .load false 1 (.s 0)⟩,
    ⟨.push, 9, none, .call 48 [(.s 2), (.s 0)]⟩,
    ⟨.push, 10, none, .un .not (.s 0)⟩] (.s 0)
  (.seq (.region false [
      ⟨.var 4, 4, none, .mov (.c (.bool false))⟩])
   (.ret))
  (.skip))
 (.seq (.test false [
    ⟨.push, 11, none, .fldAddr 1 (.v 2)⟩,
    ⟨.push, 12, none, .load false 1 (.s 0)⟩,
    ⟨.push, 13, none, .fldAddr 1 (.v 3)⟩,
    ⟨.push, 14, none, .load false 1 (.s 0)⟩,
    ⟨.push, 15, none, .call 49 [(.s 2), (.s 0)]⟩,
    ⟨.push, 16, none, .un .not (.s 0)⟩] (.s 0)
  (.seq (.region false [
      ⟨.var 4, 4, none, .mov (.c (.bool false))⟩])
   (.ret))
  (.skip))
 (.seq (.test false [
    ⟨.push, 17, none, .fldAddr 2 (.v 2)⟩,
    ⟨.push, 18, none, .load false 1 (.s 0)⟩,
    ⟨.push, 19, none, .fldAddr 2 (.v 3)⟩,
    ⟨.push, 20, none, .load false 1 (.s 0)⟩,
    ⟨.push, 21, none, .bin false .neq (.s 2) (.s 0)⟩] (.s 0)
  (.seq (.region false [
      ⟨.var 4, 4, none, .mov (.c (.bool false))⟩])
   (.ret))
  (.skip))
 (.seq (.region false [
    ⟨.var 4, 4, none, .mov (.c (.bool true))⟩])
 (.ret))))), [.t 4]⟩
noncomputable def t_laws_eqDesk : List (Nat × Ctr) := [(48, c_laws_eqStarS), (49, c_laws_eqEstimateS)]
theorem lk_laws_eqDesk_48 : look t_laws_eqDesk 48 = some c_laws_eqStarS := rfl
theorem lk_laws_eqDesk_49 : look t_laws_eqDesk 49 = some c_laws_eqEstimateS := rfl
noncomputable def c_laws_eqDesk : Ctr := mkF t_laws_eqDesk ir25 [.bor, .bor]
theorem s_laws_eqDesk : Sound Try.prog 25 c_laws_eqDesk := mkF_sound _ rfl (snd_cons s_laws_eqStarS (snd_cons s_laws_eqEstimateS snd_nil)) (by kernel_rfl : chkFn Try.prog 25 ir25 ir25_v = true)
theorem M_laws_eqDesk : c_laws_eqDesk.modes = [.bor, .bor] := rfl
theorem Fl_laws_eqDesk : c_laws_eqDesk.flat = true := rfl
attribute [go_sem] M_laws_eqDesk Fl_laws_eqDesk
attribute [go_sem] lk_laws_eqDesk_48 lk_laws_eqDesk_49
theorem Fs_laws_eqDesk {a : Desk} {b : Desk} {y_ : Bool} (h : laws_eqDesk a b = some y_) : c_laws_eqDesk.F [Desk_av a, Desk_av b] = ⟨true, .bool y_, [.any, .any]⟩ := by
  refine mkF_E rfl ?_
  dsimp only [laws_eqDesk] at h
  obtain ⟨y_1, hk1, h⟩ := bd_some h
  have fhk1 := Fs_laws_eqStarS hk1
  try simp only [go_sem] at fhk1
  rcases it_some h with ⟨hk2, h⟩ | ⟨hk2, h⟩
  · try simp only [go_sem, n1, n2, n3, n4] at hk2
    all_goals
    obtain rfl := so_some h
    refine ⟨0, fun L hL => ?_⟩
    simp only [go_sem, ir25, fhk1, hk2]
  · try simp only [go_sem, n1, n2, n3, n4] at hk2
    all_goals
    obtain ⟨y_3, hk3, h⟩ := bd_some h
    have fhk3 := Fs_laws_eqEstimateS hk3
    try simp only [go_sem] at fhk3
    rcases it_some h with ⟨hk4, h⟩ | ⟨hk4, h⟩
    · try simp only [go_sem, n1, n2, n3, n4, hk2] at hk4
      all_goals
      obtain rfl := so_some h
      refine ⟨0, fun L hL => ?_⟩
      simp only [go_sem, ir25, fhk1, hk2, fhk3, hk4]
    · try simp only [go_sem, n1, n2, n3, n4, hk2] at hk4
      all_goals
      rcases it_some h with ⟨hk5, h⟩ | ⟨hk5, h⟩
      · try simp only [go_sem, n1, n2, n3, n4, hk2, hk4] at hk5
        all_goals
        obtain rfl := so_some h
        refine ⟨0, fun L hL => ?_⟩
        simp only [go_sem, ir25, fhk1, hk2, fhk3, hk4, hk5]
      · try simp only [go_sem, n1, n2, n3, n4, hk2, hk4] at hk5
        all_goals
        obtain rfl := so_some h
        refine ⟨0, fun L hL => ?_⟩
        simp only [go_sem, ir25, fhk1, hk2, fhk3, hk4, hk5]


def ir61_v : List Nat := [0, 1, 2, 4]
def ir61 : AFn := ⟨2, 4, .seq (.region false [
    ⟨.var 2, 2, none, .box (.v 0)⟩,
    ⟨.var 3, 4, none, .mov (.c (.int .i64 (0)))⟩])
 (.seq (.region false [
    ⟨.push, 5, none, .mov (.v 1)⟩,
    ⟨.push, 6, none, .fldAddr 0 (.v 2)⟩,
    ⟨.push, 7, none, .load false 1 (.s 0)⟩,
    ⟨.push, 8, none, .len true (.s 0)⟩,
    ⟨.push, 9, none, .bin false .sub (.s 3) (.s 0)⟩,
    ⟨.var 1, 1, none, .mov (.s 0)⟩])
 (.seq (.test false [
    ⟨.push, 10, none, .mov (.v 1)⟩,
    ⟨.push, 11, none, .bin false .lss (.s 0) (.c (.int .i64 (0)))⟩] (.s 0)
  (.seq (.region false [
      ⟨.var 3, 4, none, .mov (.c (.int .i64 (-1)))⟩])
   (.ret))
  (.skip))
 (.seq (.region false [
    ⟨.push, 12, none, .mov (.v 1)⟩,
    ⟨.var 3, 4, none, .mov (.s 0)⟩])
 (.ret)))), [.t 3]⟩
noncomputable def t_laws_szStar : List (Nat × Ctr) := []
noncomputable def c_laws_szStar : Ctr := mkF t_laws_szStar ir61 [.bor, .bor]
theorem s_laws_szStar : Sound Try.prog 61 c_laws_szStar := mkF_sound _ rfl snd_nil (by kernel_rfl : chkFn Try.prog 61 ir61 ir61_v = true)
theorem M_laws_szStar : c_laws_szStar.modes = [.bor, .bor] := rfl
theorem Fl_laws_szStar : c_laws_szStar.flat = true := rfl
attribute [go_sem] M_laws_szStar Fl_laws_szStar
theorem Fs_laws_szStar {a : Star} {left_ : Int} {y_ : Int} (h : laws_szStar a left_ = some y_) : c_laws_szStar.F [Star_av a, .int .i64 left_] = ⟨true, .int .i64 y_, [.any, .any]⟩ := by
  refine mkF_E rfl ?_
  dsimp only [laws_szStar] at h
  rcases it_some h with ⟨hk1, h⟩ | ⟨hk1, h⟩
  · try simp only [go_sem, n1, n2, n3, n4] at hk1
    all_goals
    obtain rfl := so_some h
    refine ⟨0, fun L hL => ?_⟩
    simp only [go_sem, ir61, hk1]
  · try simp only [go_sem, n1, n2, n3, n4] at hk1
    all_goals
    obtain rfl := so_some h
    refine ⟨0, fun L hL => ?_⟩
    simp only [go_sem, ir61, hk1]


def ir40_b0 : IR := .seq (.test false [
    ⟨.push, 12, none, .mov (.v 3)⟩,
    ⟨.push, 13, none, .mov (.v 0)⟩,
    ⟨.push, 14, none, .len false (.s 0)⟩,
    ⟨.push, 15, none, .bin false .lss (.s 2) (.s 0)⟩] (.s 0)
  (.skip)
  (.exit 0))
 (.seq (.block 1 (.seq (.region false [
      ⟨.push, 18, none, .mov (.v 0)⟩,
      ⟨.push, 19, none, .mov (.v 3)⟩,
      ⟨.push, 20, none, .ixAddr 5 (.s 1) (.s 0)⟩,
      ⟨.push, 21, none, .load true 5 (.s 0)⟩,
      ⟨.push, 22, none, .mov (.v 1)⟩,
      ⟨.push, 23, none, .call 61 [(.s 1), (.s 0)]⟩,
      ⟨.var 1, 1, none, .mov (.s 0)⟩])
   (.test false [
     ⟨.push, 24, none, .mov (.v 1)⟩,
     ⟨.push, 25, none, .bin false .lss (.s 0) (.c (.int .i64 (0)))⟩] (.s 0)
   (.seq (.region false [
       ⟨.var 2, 4, none, .mov (.c (.int .i64 (-1)))⟩])
    (.ret))
   (.skip))))
 (.region false [
   ⟨.push, 16, none, .mov (.v 3)⟩,
   ⟨.push, 17, none, .bin false .add (.s 0) (.c (.int .i64 (1)))⟩,
   ⟨.var 3, 5, none, .mov (.s 0)⟩]))
def ir40_k0 : List Bool := [true, true, false, true]
def ir40_o0 : List Bool := [false, true, false, false]
def ir40_r0 : List Bool := [false, false, true, false]
def ir40_v : List Nat := [0, 1, 4, 5]
def ir40 : AFn := ⟨2, 4, .seq (.region false [
    ⟨.var 2, 4, none, .mov (.c (.int .i64 (0)))⟩])
 (.seq (.region false [
    ⟨.push, 6, none, .mov (.v 1)⟩,
    ⟨.push, 7, none, .mov (.v 0)⟩,
    ⟨.push, 8, none, .len false (.s 0)⟩,
    ⟨.push, 9, none, .bin false .sub (.s 2) (.s 0)⟩,
    ⟨.var 1, 1, none, .mov (.s 0)⟩])
 (.seq (.test false [
    ⟨.push, 10, none, .mov (.v 1)⟩,
    ⟨.push, 11, none, .bin false .lss (.s 0) (.c (.int .i64 (0)))⟩] (.s 0)
  (.seq (.region false [
      ⟨.var 2, 4, none, .mov (.c (.int .i64 (-1)))⟩])
   (.ret))
  (.skip))
 (.seq (.seq (.region false [
     ⟨.var 3, 5, none, .mov (.c (.int .i64 (0)))⟩])
  (.block 0 (.loop ir40_k0 ir40_o0 ir40_r0 ir40_b0)))
 (.seq (.region false [
    ⟨.push, 26, none, .mov (.v 1)⟩,
    ⟨.var 2, 4, none, .mov (.s 0)⟩])
 (.ret))))), [.t 2]⟩
noncomputable def t_laws_szStarS : List (Nat × Ctr) := [(61, c_laws_szStar)]
theorem lk_laws_szStarS_61 : look t_laws_szStarS 61 = some c_laws_szStar := rfl
noncomputable def c_laws_szStarS : Ctr := mkF t_laws_szStarS ir40 [.bor, .bor]
theorem s_laws_szStarS : Sound Try.prog 40 c_laws_szStarS := mkF_sound _ rfl (snd_cons s_laws_szStar snd_nil) (by kernel_rfl : chkFn Try.prog 40 ir40 ir40_v = true)
theorem M_laws_szStarS : c_laws_szStarS.modes = [.bor, .bor] := rfl
theorem Fl_laws_szStarS : c_laws_szStarS.flat = true := rfl
attribute [go_sem] M_laws_szStarS Fl_laws_szStarS
attribute [go_sem] lk_laws_szStarS_61
def E_laws_szStarS_l1 (a : List Star) : (Int × Int) → St
  | (left_, i) => ⟨[.sl 5 (List.map Star_av a), .int .i64 left_, .any, .int .i64 i], [], [], true⟩
def R_laws_szStarS_l1 (a : List Star) : (Int ⊕ Int) → Res
  | .inl y => (.exit 0, ⟨[.any, .int .i64 y, .any, .any], [], [], true⟩)
  | .inr y => (.ret, ⟨[.any, .any, .int .i64 y, .any], [], [], true⟩)
theorem laws_szStarS_l1_ex {a : List Star} {sgm_ : Int × Int} {rho_ : Int ⊕ Int} (h : whileE (laws_szStarS_l1 a) sgm_ = some rho_) : ∃ L0, ∀ L, L0 ≤ L → iter (exec (look t_laws_szStarS) L ir40_b0) ir40_k0 ir40_o0 ir40_r0 L (E_laws_szStarS_l1 a sgm_) = R_laws_szStarS_l1 a rho_ := by
  refine loop_ex (E := E_laws_szStarS_l1 a) (R := R_laws_szStarS_l1 a) (fun y => by first | (intro c; cases c) | (rcases y with y | y <;> (intro c; cases c)) | (rcases y with y | y | y <;> (intro c; cases c))) ?_ h
  clear h
  rintro ⟨left_, i⟩ o_ h
  dsimp only [laws_szStarS_l1] at h
  rcases it_some h with ⟨hk2, h⟩ | ⟨hk2, h⟩
  · try simp only [go_sem, n1, n2, n3, n4] at hk2
    all_goals
    obtain ⟨hk3, h⟩ := ck_some h
    have lhk3 := ix_lt hk3
    have xhk3 := getD_mapD Star_av a lhk3
    try simp only [go_sem] at lhk3
    try simp only [go_sem] at xhk3
    try simp only [go_sem, n1, n2, n3, n4, hk2] at hk3
    all_goals
    obtain ⟨y_4, hk4, h⟩ := bd_some h
    have fhk4 := Fs_laws_szStar hk4
    try simp only [go_sem] at fhk4
    rcases it_some h with ⟨hk5, h⟩ | ⟨hk5, h⟩
    · try simp only [go_sem, n1, n2, n3, n4, hk2, hk3] at hk5
      all_goals
      obtain rfl := so_some h
      refine ⟨0, fun L hL => ?_⟩
      simp only [go_sem, ir40, E_laws_szStarS_l1, R_laws_szStarS_l1, ir40_b0, ir40_k0, ir40_o0, ir40_r0, hk2, hk3, lhk3, xhk3, fhk4, hk5]
    · try simp only [go_sem, n1, n2, n3, n4, hk2, hk3] at hk5
      all_goals
      obtain rfl := so_some h
      refine ⟨0, fun L hL => ?_⟩
      simp only [go_sem, ir40, E_laws_szStarS_l1, R_laws_szStarS_l1, ir40_b0, ir40_k0, ir40_o0, ir40_r0, hk2, hk3, lhk3, xhk3, fhk4, hk5]
  · try simp only [go_sem, n1, n2, n3, n4] at hk2
    all_goals
    obtain rfl := so_some h
    refine ⟨0, fun L hL => ?_⟩
    simp only [go_sem, ir40, E_laws_szStarS_l1, R_laws_szStarS_l1, ir40_b0, ir40_k0, ir40_o0, ir40_r0, hk2]

theorem Fs_laws_szStarS {a : List Star} {left_ : Int} {y_ : Int} (h : laws_szStarS a left_ = some y_) : c_laws_szStarS.F [.sl 5 (List.map Star_av a), .int .i64 left_] = ⟨true, .int .i64 y_, [.any, .any]⟩ := by
  refine mkF_E rfl ?_
  dsimp only [laws_szStarS] at h
  rcases it_some h with ⟨hk1, h⟩ | ⟨hk1, h⟩
  · try simp only [go_sem, n1, n2, n3, n4] at hk1
    all_goals
    obtain rfl := so_some h
    refine ⟨0, fun L hL => ?_⟩
    simp only [go_sem, ir40, E_laws_szStarS_l1, R_laws_szStarS_l1, ir40_k0, ir40_o0, ir40_r0, hk1]
  · try simp only [go_sem, n1, n2, n3, n4] at hk1
    all_goals
    obtain ⟨y_6, hk6, h⟩ := bd_some h
    obtain ⟨Lhk6, ehk6⟩ := laws_szStarS_l1_ex hk6
    rcases y_6 with y_6a | y_6b
    · dsimp only at h
      obtain rfl := so_some h
      refine ⟨Lhk6, fun L hL => ?_⟩
      have ehk6 := ehk6 L (by omega)
      try simp only [go_sem, E_laws_szStarS_l1, R_laws_szStarS_l1, ir40_k0, ir40_o0, ir40_r0] at ehk6
      simp only [go_sem, ir40, E_laws_szStarS_l1, R_laws_szStarS_l1, ir40_k0, ir40_o0, ir40_r0, hk1, ehk6]
    · dsimp only at h
      obtain rfl := so_some h
      refine ⟨Lhk6, fun L hL => ?_⟩
      have ehk6 := ehk6 L (by omega)
      try simp only [go_sem, E_laws_szStarS_l1, R_laws_szStarS_l1, ir40_k0, ir40_o0, ir40_r0] at ehk6
      simp only [go_sem, ir40, E_laws_szStarS_l1, R_laws_szStarS_l1, ir40_k0, ir40_o0, ir40_r0, hk1, ehk6]


def ir62_v : List Nat := [0, 1, 2, 4]
def ir62 : AFn := ⟨2, 4, .seq (.region false [
    ⟨.var 2, 2, none, .box (.v 0)⟩,
    ⟨.var 3, 4, none, .mov (.c (.int .i64 (0)))⟩])
 (.seq (.region false [
    ⟨.push, 5, none, .mov (.v 1)⟩,
    ⟨.push, 6, none, .fldAddr 1 (.v 2)⟩,
    ⟨.push, 7, none, .load false 1 (.s 0)⟩,
    ⟨.push, 8, none, .len true (.s 0)⟩,
    ⟨.push, 9, none, .bin false .sub (.s 3) (.s 0)⟩,
    ⟨.var 1, 1, none, .mov (.s 0)⟩])
 (.seq (.test false [
    ⟨.push, 10, none, .mov (.v 1)⟩,
    ⟨.push, 11, none, .bin false .lss (.s 0) (.c (.int .i64 (0)))⟩] (.s 0)
  (.seq (.region false [
      ⟨.var 3, 4, none, .mov (.c (.int .i64 (-1)))⟩])
   (.ret))
  (.skip))
 (.seq (.region false [
    ⟨.push, 12, none, .mov (.v 1)⟩,
    ⟨.push, 13, none, .fldAddr 2 (.v 2)⟩,
    ⟨.push, 14, none, .load false 1 (.s 0)⟩,
    ⟨.push, 15, none, .len true (.s 0)⟩,
    ⟨.push, 16, none, .bin false .sub (.s 3) (.s 0)⟩,
    ⟨.var 1, 1, none, .mov (.s 0)⟩])
 (.seq (.test false [
    ⟨.push, 17, none, .mov (.v 1)⟩,
    ⟨.push, 18, none, .bin false .lss (.s 0) (.c (.int .i64 (0)))⟩] (.s 0)
  (.seq (.region false [
      ⟨.var 3, 4, none, .mov (.c (.int .i64 (-1)))⟩])
   (.ret))
  (.skip))
 (.seq (.region false [
    ⟨.push, 19, none, .mov (.v 1)⟩,
    ⟨.var 3, 4, none, .mov (.s 0)⟩])
 (.ret)))))), [.t 3]⟩
noncomputable def t_laws_szEstimate : List (Nat × Ctr) := []
noncomputable def c_laws_szEstimate : Ctr := mkF t_laws_szEstimate ir62 [.bor, .bor]
theorem s_laws_szEstimate : Sound Try.prog 62 c_laws_szEstimate := mkF_sound _ rfl snd_nil (by kernel_rfl : chkFn Try.prog 62 ir62 ir62_v = true)
theorem M_laws_szEstimate : c_laws_szEstimate.modes = [.bor, .bor] := rfl
theorem Fl_laws_szEstimate : c_laws_szEstimate.flat = true := rfl
attribute [go_sem] M_laws_szEstimate Fl_laws_szEstimate
theorem Fs_laws_szEstimate {a : Estimate} {left_ : Int} {y_ : Int} (h : laws_szEstimate a left_ = some y_) : c_laws_szEstimate.F [Estimate_av a, .int .i64 left_] = ⟨true, .int .i64 y_, [.any, .any]⟩ := by
  refine mkF_E rfl ?_
  dsimp only [laws_szEstimate] at h
  rcases it_some h with ⟨hk1, h⟩ | ⟨hk1, h⟩
  · try simp only [go_sem, n1, n2, n3, n4] at hk1
    all_goals
    obtain rfl := so_some h
    refine ⟨0, fun L hL => ?_⟩
    simp only [go_sem, ir62, hk1]
  · try simp only [go_sem, n1, n2, n3, n4] at hk1
    all_goals
    rcases it_some h with ⟨hk2, h⟩ | ⟨hk2, h⟩
    · try simp only [go_sem, n1, n2, n3, n4, hk1] at hk2
      all_goals
      obtain rfl := so_some h
      refine ⟨0, fun L hL => ?_⟩
      simp only [go_sem, ir62, hk1, hk2]
    · try simp only [go_sem, n1, n2, n3, n4, hk1] at hk2
      all_goals
      obtain rfl := so_some h
      refine ⟨0, fun L hL => ?_⟩
      simp only [go_sem, ir62, hk1, hk2]


def ir41_b0 : IR := .seq (.test false [
    ⟨.push, 12, none, .mov (.v 3)⟩,
    ⟨.push, 13, none, .mov (.v 0)⟩,
    ⟨.push, 14, none, .len false (.s 0)⟩,
    ⟨.push, 15, none, .bin false .lss (.s 2) (.s 0)⟩] (.s 0)
  (.skip)
  (.exit 0))
 (.seq (.block 1 (.seq (.region false [
      ⟨.push, 18, none, .mov (.v 0)⟩,
      ⟨.push, 19, none, .mov (.v 3)⟩,
      ⟨.push, 20, none, .ixAddr 5 (.s 1) (.s 0)⟩,
      ⟨.push, 21, none, .load true 5 (.s 0)⟩,
      ⟨.push, 22, none, .mov (.v 1)⟩,
      ⟨.push, 23, none, .call 62 [(.s 1), (.s 0)]⟩,
      ⟨.var 1, 1, none, .mov (.s 0)⟩])
   (.test false [
     ⟨.push, 24, none, .mov (.v 1)⟩,
     ⟨.push, 25, none, .bin false .lss (.s 0) (.c (.int .i64 (0)))⟩] (.s 0)
   (.seq (.region false [
       ⟨.var 2, 4, none, .mov (.c (.int .i64 (-1)))⟩])
    (.ret))
   (.skip))))
 (.region false [
   ⟨.push, 16, none, .mov (.v 3)⟩,
   ⟨.push, 17, none, .bin false .add (.s 0) (.c (.int .i64 (1)))⟩,
   ⟨.var 3, 5, none, .mov (.s 0)⟩]))
def ir41_k0 : List Bool := [true, true, false, true]
def ir41_o0 : List Bool := [false, true, false, false]
def ir41_r0 : List Bool := [false, false, true, false]
def ir41_v : List Nat := [0, 1, 4, 5]
def ir41 : AFn := ⟨2, 4, .seq (.region false [
    ⟨.var 2, 4, none, .mov (.c (.int .i64 (0)))⟩])
 (.seq (.region false [
    ⟨.push, 6, none, .mov (.v 1)⟩,
    ⟨.push, 7, none, .mov (.v 0)⟩,
    ⟨.push, 8, none, .len false (.s 0)⟩,
    ⟨.push, 9, none, .bin false .sub (.s 2) (.s 0)⟩,
    ⟨.var 1, 1, none, .mov (.s 0)⟩])
 (.seq (.test false [
    ⟨.push, 10, none, .mov (.v 1)⟩,
    ⟨.push, 11, none, .bin false .lss (.s 0) (.c (.int .i64 (0)))⟩] (.s 0)
  (.seq (.region false [
      ⟨.var 2, 4, none, .mov (.c (.int .i64 (-1)))⟩])
   (.ret))
  (.skip))
 (.seq (.seq (.region false [
     ⟨.var 3, 5, none, .mov (.c (.int .i64 (0)))⟩])
  (.block 0 (.loop ir41_k0 ir41_o0 ir41_r0 ir41_b0)))
 (.seq (.region false [
    ⟨.push, 26, none, .mov (.v 1)⟩,
    ⟨.var 2, 4, none, .mov (.s 0)⟩])
 (.ret))))), [.t 2]⟩
noncomputable def t_laws_szEstimateS : List (Nat × Ctr) := [(62, c_laws_szEstimate)]
theorem lk_laws_szEstimateS_62 : look t_laws_szEstimateS 62 = some c_laws_szEstimate := rfl
noncomputable def c_laws_szEstimateS : Ctr := mkF t_laws_szEstimateS ir41 [.bor, .bor]
theorem s_laws_szEstimateS : Sound Try.prog 41 c_laws_szEstimateS := mkF_sound _ rfl (snd_cons s_laws_szEstimate snd_nil) (by kernel_rfl : chkFn Try.prog 41 ir41 ir41_v = true)
theorem M_laws_szEstimateS : c_laws_szEstimateS.modes = [.bor, .bor] := rfl
theorem Fl_laws_szEstimateS : c_laws_szEstimateS.flat = true := rfl
attribute [go_sem] M_laws_szEstimateS Fl_laws_szEstimateS
attribute [go_sem] lk_laws_szEstimateS_62
def E_laws_szEstimateS_l1 (a : List Estimate) : (Int × Int) → St
  | (left_, i) => ⟨[.sl 5 (List.map Estimate_av a), .int .i64 left_, .any, .int .i64 i], [], [], true⟩
def R_laws_szEstimateS_l1 (a : List Estimate) : (Int ⊕ Int) → Res
  | .inl y => (.exit 0, ⟨[.any, .int .i64 y, .any, .any], [], [], true⟩)
  | .inr y => (.ret, ⟨[.any, .any, .int .i64 y, .any], [], [], true⟩)
theorem laws_szEstimateS_l1_ex {a : List Estimate} {sgm_ : Int × Int} {rho_ : Int ⊕ Int} (h : whileE (laws_szEstimateS_l1 a) sgm_ = some rho_) : ∃ L0, ∀ L, L0 ≤ L → iter (exec (look t_laws_szEstimateS) L ir41_b0) ir41_k0 ir41_o0 ir41_r0 L (E_laws_szEstimateS_l1 a sgm_) = R_laws_szEstimateS_l1 a rho_ := by
  refine loop_ex (E := E_laws_szEstimateS_l1 a) (R := R_laws_szEstimateS_l1 a) (fun y => by first | (intro c; cases c) | (rcases y with y | y <;> (intro c; cases c)) | (rcases y with y | y | y <;> (intro c; cases c))) ?_ h
  clear h
  rintro ⟨left_, i⟩ o_ h
  dsimp only [laws_szEstimateS_l1] at h
  rcases it_some h with ⟨hk2, h⟩ | ⟨hk2, h⟩
  · try simp only [go_sem, n1, n2, n3, n4] at hk2
    all_goals
    obtain ⟨hk3, h⟩ := ck_some h
    have lhk3 := ix_lt hk3
    have xhk3 := getD_mapD Estimate_av a lhk3
    try simp only [go_sem] at lhk3
    try simp only [go_sem] at xhk3
    try simp only [go_sem, n1, n2, n3, n4, hk2] at hk3
    all_goals
    obtain ⟨y_4, hk4, h⟩ := bd_some h
    have fhk4 := Fs_laws_szEstimate hk4
    try simp only [go_sem] at fhk4
    rcases it_some h with ⟨hk5, h⟩ | ⟨hk5, h⟩
    · try simp only [go_sem, n1, n2, n3, n4, hk2, hk3] at hk5
      all_goals
      obtain rfl := so_some h
      refine ⟨0, fun L hL => ?_⟩
      simp only [go_sem, ir41, E_laws_szEstimateS_l1, R_laws_szEstimateS_l1, ir41_b0, ir41_k0, ir41_o0, ir41_r0, hk2, hk3, lhk3, xhk3, fhk4, hk5]
    · try simp only [go_sem, n1, n2, n3, n4, hk2, hk3] at hk5
      all_goals
      obtain rfl := so_some h
      refine ⟨0, fun L hL => ?_⟩
      simp only [go_sem, ir41, E_laws_szEstimateS_l1, R_laws_szEstimateS_l1, ir41_b0, ir41_k0, ir41_o0, ir41_r0, hk2, hk3, lhk3, xhk3, fhk4, hk5]
  · try simp only [go_sem, n1, n2, n3, n4] at hk2
    all_goals
    obtain rfl := so_some h
    refine ⟨0, fun L hL => ?_⟩
    simp only [go_sem, ir41, E_laws_szEstimateS_l1, R_laws_szEstimateS_l1, ir41_b0, ir41_k0, ir41_o0, ir41_r0, hk2]

theorem Fs_laws_szEstimateS {a : List Estimate} {left_ : Int} {y_ : Int} (h : laws_szEstimateS a left_ = some y_) : c_laws_szEstimateS.F [.sl 5 (List.map Estimate_av a), .int .i64 left_] = ⟨true, .int .i64 y_, [.any, .any]⟩ := by
  refine mkF_E rfl ?_
  dsimp only [laws_szEstimateS] at h
  rcases it_some h with ⟨hk1, h⟩ | ⟨hk1, h⟩
  · try simp only [go_sem, n1, n2, n3, n4] at hk1
    all_goals
    obtain rfl := so_some h
    refine ⟨0, fun L hL => ?_⟩
    simp only [go_sem, ir41, E_laws_szEstimateS_l1, R_laws_szEstimateS_l1, ir41_k0, ir41_o0, ir41_r0, hk1]
  · try simp only [go_sem, n1, n2, n3, n4] at hk1
    all_goals
    obtain ⟨y_6, hk6, h⟩ := bd_some h
    obtain ⟨Lhk6, ehk6⟩ := laws_szEstimateS_l1_ex hk6
    rcases y_6 with y_6a | y_6b
    · dsimp only at h
      obtain rfl := so_some h
      refine ⟨Lhk6, fun L hL => ?_⟩
      have ehk6 := ehk6 L (by omega)
      try simp only [go_sem, E_laws_szEstimateS_l1, R_laws_szEstimateS_l1, ir41_k0, ir41_o0, ir41_r0] at ehk6
      simp only [go_sem, ir41, E_laws_szEstimateS_l1, R_laws_szEstimateS_l1, ir41_k0, ir41_o0, ir41_r0, hk1, ehk6]
    · dsimp only at h
      obtain rfl := so_some h
      refine ⟨Lhk6, fun L hL => ?_⟩
      have ehk6 := ehk6 L (by omega)
      try simp only [go_sem, E_laws_szEstimateS_l1, R_laws_szEstimateS_l1, ir41_k0, ir41_o0, ir41_r0] at ehk6
      simp only [go_sem, ir41, E_laws_szEstimateS_l1, R_laws_szEstimateS_l1, ir41_k0, ir41_o0, ir41_r0, hk1, ehk6]


def ir21_v : List Nat := [0, 1, 2, 4]
def ir21 : AFn := ⟨2, 4, .seq (.region false [
    ⟨.var 2, 2, none, .box (.v 0)⟩,
    ⟨.var 3, 4, none, .mov (.c (.int .i64 (0)))⟩])
 (.seq (.region false [
    ⟨.push, 5, none, .fldAddr 0 (.v 2)⟩,
    ⟨.push, 6, none, .load false 1 (.s 0)⟩,
    ⟨.push, 7, none, .mov (.v 1)⟩,
    ⟨.push, 8, none, .call 40 [(.s 1), (.s 0)]⟩,
    ⟨.var 1, 1, none, .mov (.s 0)⟩])
 (.seq (.test false [
    ⟨.push, 9, none, .mov (.v 1)⟩,
    ⟨.push, 10, none, .bin false .lss (.s 0) (.c (.int .i64 (0)))⟩] (.s 0)
  (.seq (.region false [
      ⟨.var 3, 4, none, .mov (.c (.int .i64 (-1)))⟩])
   (.ret))
  (.skip))
 (.seq (.region false [
    ⟨.push, 11, none, .fldAddr 1 (.v 2)⟩,
    ⟨.push, 12, none, .load false 1 (.s 0)⟩,
    ⟨.push, 13, none, .mov (.v 1)⟩,
    ⟨.push, 14, none, .call 41 [(.s 1), (.s 0)]⟩,
    ⟨.var 1, 1, none, .mov (.s 0)⟩])
 (.seq (.test false [
    ⟨.push, 15, none, .mov (.v 1)⟩,
    ⟨.push, 16, none, .bin false .lss (.s 0) (.c (.int .i64 (0)))⟩] (.s 0)
  (.seq (.region false [
      ⟨.var 3, 4, none, .mov (.c (.int .i64 (-1)))⟩])
   (.ret))
  (.skip))
 (.seq (.region false [
    ⟨.push, 17, none, .mov (.v 1)⟩,
    ⟨.push, 18, none, .fldAddr 2 (.v 2)⟩,
    ⟨.push, 19, none, .load false 1 (.s 0)⟩,
    ⟨.push, 20, none, .len true (.s 0)⟩,
    ⟨.push, 21, none, .bin false .sub (.s 3) (.s 0)⟩,
    ⟨.var 1, 1, none, .mov (.s 0)⟩])
 (.seq (.test false [
    ⟨.push, 22, none, .mov (.v 1)⟩,
    ⟨.push, 23, none, .bin false .lss (.s 0) (.c (.int .i64 (0)))⟩] (.s 0)
  (.seq (.region false [
      ⟨.var 3, 4, none, .mov (.c (.int .i64 (-1)))⟩])
   (.ret))
  (.skip))
 (.seq (.region false [
    ⟨.push, 24, none, .mov (.v 1)⟩,
    ⟨.var 3, 4, none, .mov (.s 0)⟩])
 (.ret)))))))), [.t 3]⟩
noncomputable def t_laws_szDesk : List (Nat × Ctr) := [(40, c_laws_szStarS), (41, c_laws_szEstimateS)]
theorem lk_laws_szDesk_40 : look t_laws_szDesk 40 = some c_laws_szStarS := rfl
theorem lk_laws_szDesk_41 : look t_laws_szDesk 41 = some c_laws_szEstimateS := rfl
noncomputable def c_laws_szDesk : Ctr := mkF t_laws_szDesk ir21 [.bor, .bor]
theorem s_laws_szDesk : Sound Try.prog 21 c_laws_szDesk := mkF_sound _ rfl (snd_cons s_laws_szStarS (snd_cons s_laws_szEstimateS snd_nil)) (by kernel_rfl : chkFn Try.prog 21 ir21 ir21_v = true)
theorem M_laws_szDesk : c_laws_szDesk.modes = [.bor, .bor] := rfl
theorem Fl_laws_szDesk : c_laws_szDesk.flat = true := rfl
attribute [go_sem] M_laws_szDesk Fl_laws_szDesk
attribute [go_sem] lk_laws_szDesk_40 lk_laws_szDesk_41
theorem Fs_laws_szDesk {a : Desk} {left_ : Int} {y_ : Int} (h : laws_szDesk a left_ = some y_) : c_laws_szDesk.F [Desk_av a, .int .i64 left_] = ⟨true, .int .i64 y_, [.any, .any]⟩ := by
  refine mkF_E rfl ?_
  dsimp only [laws_szDesk] at h
  obtain ⟨y_1, hk1, h⟩ := bd_some h
  have fhk1 := Fs_laws_szStarS hk1
  try simp only [go_sem] at fhk1
  rcases it_some h with ⟨hk2, h⟩ | ⟨hk2, h⟩
  · try simp only [go_sem, n1, n2, n3, n4] at hk2
    all_goals
    obtain rfl := so_some h
    refine ⟨0, fun L hL => ?_⟩
    simp only [go_sem, ir21, fhk1, hk2]
  · try simp only [go_sem, n1, n2, n3, n4] at hk2
    all_goals
    obtain ⟨y_3, hk3, h⟩ := bd_some h
    have fhk3 := Fs_laws_szEstimateS hk3
    try simp only [go_sem] at fhk3
    rcases it_some h with ⟨hk4, h⟩ | ⟨hk4, h⟩
    · try simp only [go_sem, n1, n2, n3, n4, hk2] at hk4
      all_goals
      obtain rfl := so_some h
      refine ⟨0, fun L hL => ?_⟩
      simp only [go_sem, ir21, fhk1, hk2, fhk3, hk4]
    · try simp only [go_sem, n1, n2, n3, n4, hk2] at hk4
      all_goals
      rcases it_some h with ⟨hk5, h⟩ | ⟨hk5, h⟩
      · try simp only [go_sem, n1, n2, n3, n4, hk2, hk4] at hk5
        all_goals
        obtain rfl := so_some h
        refine ⟨0, fun L hL => ?_⟩
        simp only [go_sem, ir21, fhk1, hk2, fhk3, hk4, hk5]
      · try simp only [go_sem, n1, n2, n3, n4, hk2, hk4] at hk5
        all_goals
        obtain rfl := so_some h
        refine ⟨0, fun L hL => ?_⟩
        simp only [go_sem, ir21, fhk1, hk2, fhk3, hk4, hk5]


def ir65_b0 : IR := .seq (.region false [
    ⟨.var 6, 14, none, .bin false .lss (.v 5) (.v 4)⟩])
 (.seq (.cond (.v 6) (.skip)
  (.exit 0))
 (.seq (.block 1 (.seq (.region false [
      ⟨.push, 15, none, .mov (.v 5)⟩,
      ⟨.var 3, 5, none, .mov (.s 0)⟩])
   (.anyo 9 [
     ⟨.slot 0, 16, none, .mov (.v 0)⟩,
     ⟨.slot 1, 17, none, .mov (.v 3)⟩,
     ⟨.slot 2, 18, none, .ixAddr 5 (.s 0) (.s 1)⟩,
     ⟨.slot 3, 19, none, .load true 5 (.s 2)⟩,
     ⟨.slot 4, 20, none, .mov (.v 1)⟩,
     ⟨.slot 5, 21, none, .mov (.v 3)⟩,
     ⟨.slot 6, 22, none, .ixAddr 5 (.s 4) (.s 5)⟩,
     ⟨.slot 7, 23, none, .load true 5 (.s 6)⟩,
     ⟨.slot 8, 24, none, .eqA true [2, 1, 1, 1, 1] (.s 3) (.s 7)⟩] [] (.cond (.s 8)
   (.seq (.region false [
       ⟨.var 2, 4, none, .mov (.c (.bool false))⟩])
    (.ret))
   (.skip)))))
 (.region false [
   ⟨.push, 25, none, .bin false .add (.v 5) (.c (.int .i64 (1)))⟩,
   ⟨.var 5, 13, none, .mov (.s 0)⟩])))
def ir65_k0 : List Bool := [true, true, false, false, true, true, false]
def ir65_o0 : List Bool := [false, false, false, false, false, false, false]
def ir65_r0 : List Bool := [false, false, true, false, false, false, false]
def ir65_v : List Nat := [0, 1, 4, 5, 12, 13, 14]
def ir65 : AFn := ⟨2, 7, .seq (.region false [
    ⟨.var 2, 4, none, .mov (.c (.bool false))⟩])
 (.seq (.test false [
    ⟨.push, 6, none, .mov (.v 0)⟩,
    ⟨.push, 7, none, .len false (.s 0)⟩,
    ⟨.push, 8, none, .mov (.v 1)⟩,
    ⟨.push, 9, none, .len false (.s 0)⟩,
    ⟨.push, 10, none, .bin false .neq (.s 2) (.s 0)⟩] (.s 0)
  (.seq (.region false [
      ⟨.var 2, 4, none, .mov (.c (.bool false))⟩])
   (.ret))
  (.skip))
 (.seq (.seq (.region false [
     ⟨.push, 11, none, .mov (.v 0)⟩,
     ⟨.var 4, 12, none, .len false (.s 0)⟩,
     ⟨.var 5, 13, none, .mov (.c (.int .i64 (0)))⟩])
  (.block 0 (.loop ir65_k0 ir65_o0 ir65_r0 ir65_b0)))
 (.seq (.region false [
    ⟨.var 2, 4, none, .mov (.c (.bool true))⟩])
 (.ret)))), [.t 2]⟩
noncomputable def t_slices_Equal_impl_Star_impl_Star : List (Nat × Ctr) := []
noncomputable def c_slices_Equal_impl_Star_impl_Star : Ctr := mkF t_slices_Equal_impl_Star_impl_Star ir65 [.bor, .bor]
theorem s_slices_Equal_impl_Star_impl_Star : Sound Try.prog 65 c_slices_Equal_impl_Star_impl_Star := mkF_sound _ rfl snd_nil (by kernel_rfl : chkFn Try.prog 65 ir65 ir65_v = true)
theorem M_slices_Equal_impl_Star_impl_Star : c_slices_Equal_impl_Star_impl_Star.modes = [.bor, .bor] := rfl
theorem Fl_slices_Equal_impl_Star_impl_Star : c_slices_Equal_impl_Star_impl_Star.flat = true := rfl
attribute [go_sem] M_slices_Equal_impl_Star_impl_Star Fl_slices_Equal_impl_Star_impl_Star
def E_slices_Equal_impl_Star_impl_Star_l1 (s1 : List Star) (s2 : List Star) (t12 : Int) : Int → St
  | t13 => ⟨[.sl 5 (List.map Star_av s1), .sl 5 (List.map Star_av s2), .any, .any, .int .i64 t12, .int .i64 t13, .any], [], [], true⟩
def R_slices_Equal_impl_Star_impl_Star_l1 (s1 : List Star) (s2 : List Star) (t12 : Int) : (Unit ⊕ Bool) → Res
  | .inl y => (.exit 0, ⟨[.any, .any, .any, .any, .any, .any, .any], [], [], true⟩)
  | .inr y => (.ret, ⟨[.any, .any, .bool y, .any, .any, .any, .any], [], [], true⟩)
theorem slices_Equal_impl_Star_impl_Star_l1_ex {s1 : List Star} {s2 : List Star} {t12 : Int} {sgm_ : Int} {rho_ : Unit ⊕ Bool} (h : whileE (slices_Equal_impl_Star_impl_Star_l1 s1 s2 t12) sgm_ = some rho_) : ∃ L0, ∀ L, L0 ≤ L → iter (exec (look t_slices_Equal_impl_Star_impl_Star) L ir65_b0) ir65_k0 ir65_o0 ir65_r0 L (E_slices_Equal_impl_Star_impl_Star_l1 s1 s2 t12 sgm_) = R_slices_Equal_impl_Star_impl_Star_l1 s1 s2 t12 rho_ := by
  refine loop_ex (E := E_slices_Equal_impl_Star_impl_Star_l1 s1 s2 t12) (R := R_slices_Equal_impl_Star_impl_Star_l1 s1 s2 t12) (fun y => by first | (intro c; cases c) | (rcases y with y | y <;> (intro c; cases c)) | (rcases y with y | y | y <;> (intro c; cases c))) ?_ h
  clear h
  intro t13 o_ h
  dsimp only [slices_Equal_impl_Star_impl_Star_l1] at h
  rcases it_some h with ⟨hk2, h⟩ | ⟨hk2, h⟩
  · try simp only [go_sem, n1, n2, n3, n4] at hk2
    all_goals
    obtain ⟨hk3, h⟩ := ck_some h
    have lhk3 := ix_lt hk3
    have xhk3 := getD_mapD Star_av s1 lhk3
    try simp only [go_sem] at lhk3
    try simp only [go_sem] at xhk3
    try simp only [go_sem, n1, n2, n3, n4, hk2] at hk3
    all_goals
    obtain ⟨hk4, h⟩ := ck_some h
    have lhk4 := ix_lt hk4
    have xhk4 := getD_mapD Star_av s2 lhk4
    try simp only [go_sem] at lhk4
    try simp only [go_sem] at xhk4
    try simp only [go_sem, n1, n2, n3, n4, hk2, hk3] at hk4
    all_goals
    rcases it_some h with ⟨hk5, h⟩ | ⟨hk5, h⟩
    · try simp only [go_sem, n1, n2, n3, n4, hk2, hk3, hk4] at hk5
      all_goals
      obtain rfl := so_some h
      refine ⟨0, fun L hL => ?_⟩
      simp only [go_sem, ir65, E_slices_Equal_impl_Star_impl_Star_l1, R_slices_Equal_impl_Star_impl_Star_l1, ir65_b0, ir65_k0, ir65_o0, ir65_r0, hk2, hk3, lhk3, xhk3, hk4, lhk4, xhk4, hk5]
    · try simp only [go_sem, n1, n2, n3, n4, hk2, hk3, hk4] at hk5
      all_goals
      obtain rfl := so_some h
      refine ⟨0, fun L hL => ?_⟩
      simp only [go_sem, ir65, E_slices_Equal_impl_Star_impl_Star_l1, R_slices_Equal_impl_Star_impl_Star_l1, ir65_b0, ir65_k0, ir65_o0, ir65_r0, hk2, hk3, lhk3, xhk3, hk4, lhk4, xhk4, hk5]
  · try simp only [go_sem, n1, n2, n3, n4] at hk2
    all_goals
    obtain rfl := so_some h
    refine ⟨0, fun L hL => ?_⟩
    simp only [go_sem, ir65, E_slices_Equal_impl_Star_impl_Star_l1, R_slices_Equal_impl_Star_impl_Star_l1, ir65_b0, ir65_k0, ir65_o0, ir65_r0, hk2]

theorem Fs_slices_Equal_impl_Star_impl_Star {s1 : List Star} {s2 : List Star} {y_ : Bool} (h : slices_Equal_impl_Star_impl_Star s1 s2 = some y_) : c_slices_Equal_impl_Star_impl_Star.F [.sl 5 (List.map Star_av s1), .sl 5 (List.map Star_av s2)] = ⟨true, .bool y_, [.any, .any]⟩ := by
  refine mkF_E rfl ?_
  dsimp only [slices_Equal_impl_Star_impl_Star] at h
  rcases it_some h with ⟨hk1, h⟩ | ⟨hk1, h⟩
  · try simp only [go_sem, n1, n2, n3, n4] at hk1
    all_goals
    obtain rfl := so_some h
    refine ⟨0, fun L hL => ?_⟩
    simp only [go_sem, ir65, E_slices_Equal_impl_Star_impl_Star_l1, R_slices_Equal_impl_Star_impl_Star_l1, ir65_k0, ir65_o0, ir65_r0, hk1]
  · try simp only [go_sem, n1, n2, n3, n4] at hk1
    all_goals
    obtain ⟨y_6, hk6, h⟩ := bd_some h
    obtain ⟨Lhk6, ehk6⟩ := slices_Equal_impl_Star_impl_Star_l1_ex hk6
    rcases y_6 with y_6a | y_6b
    · dsimp only at h
      obtain rfl := so_some h
      refine ⟨Lhk6, fun L hL => ?_⟩
      have ehk6 := ehk6 L (by omega)
      try simp only [go_sem, E_slices_Equal_impl_Star_impl_Star_l1, R_slices_Equal_impl_Star_impl_Star_l1, ir65_k0, ir65_o0, ir65_r0] at ehk6
      simp only [go_sem, ir65, E_slices_Equal_impl_Star_impl_Star_l1, R_slices_Equal_impl_Star_impl_Star_l1, ir65_k0, ir65_o0, ir65_r0, hk1, ehk6]
    · dsimp only at h
      obtain rfl := so_some h
      refine ⟨Lhk6, fun L hL => ?_⟩
      have ehk6 := ehk6 L (by omega)
      try simp only [go_sem, E_slices_Equal_impl_Star_impl_Star_l1, R_slices_Equal_impl_Star_impl_Star_l1, ir65_k0, ir65_o0, ir65_r0] at ehk6
      simp only [go_sem, ir65, E_slices_Equal_impl_Star_impl_Star_l1, R_slices_Equal_impl_Star_impl_Star_l1, ir65_k0, ir65_o0, ir65_r0, hk1, ehk6]


def ir46_v : List Nat := [0, 1, 4]
def ir46 : AFn := ⟨2, 3, .seq (.region false [
    ⟨.var 2, 4, none, .mov (.c (.bool false))⟩])
 (.seq (.region false [
    ⟨.push, 5, none, .mov (.v 0)⟩,
    ⟨.push, 6, none, .mov (.v 1)⟩,
    ⟨.push, 7, none, .call 65 [(.s 1), (.s 0)]⟩,
    ⟨.var 2, 4, none, .mov (.s 0)⟩])
 (.ret)), [.t 2]⟩
noncomputable def t_impl_SameStars : List (Nat × Ctr) := [(65, c_slices_Equal_impl_Star_impl_Star)]
theorem lk_impl_SameStars_65 : look t_impl_SameStars 65 = some c_slices_Equal_impl_Star_impl_Star := rfl
noncomputable def c_impl_SameStars : Ctr := mkF t_impl_SameStars ir46 [.bor, .bor]
theorem s_impl_SameStars : Sound Try.prog 46 c_impl_SameStars := mkF_sound _ rfl (snd_cons s_slices_Equal_impl_Star_impl_Star snd_nil) (by kernel_rfl : chkFn Try.prog 46 ir46 ir46_v = true)
theorem M_impl_SameStars : c_impl_SameStars.modes = [.bor, .bor] := rfl
theorem Fl_impl_SameStars : c_impl_SameStars.flat = true := rfl
attribute [go_sem] M_impl_SameStars Fl_impl_SameStars
attribute [go_sem] lk_impl_SameStars_65
theorem Fs_impl_SameStars {a : List Star} {b : List Star} {y_ : Bool} (h : impl_SameStars a b = some y_) : c_impl_SameStars.F [.sl 5 (List.map Star_av a), .sl 5 (List.map Star_av b)] = ⟨true, .bool y_, [.any, .any]⟩ := by
  refine mkF_E rfl ?_
  dsimp only [impl_SameStars] at h
  obtain ⟨y_1, hk1, h⟩ := bd_some h
  have fhk1 := Fs_slices_Equal_impl_Star_impl_Star hk1
  try simp only [go_sem] at fhk1
  obtain rfl := so_some h
  refine ⟨0, fun L hL => ?_⟩
  simp only [go_sem, ir46, fhk1]


def ir66_b0 : IR := .seq (.region false [
    ⟨.var 6, 14, none, .bin false .lss (.v 5) (.v 4)⟩])
 (.seq (.cond (.v 6) (.skip)
  (.exit 0))
 (.seq (.block 1 (.seq (.region false [
      ⟨.push, 15, none, .mov (.v 5)⟩,
      ⟨.var 3, 5, none, .mov (.s 0)⟩])
   (.anyo 9 [
     ⟨.slot 0, 16, none, .mov (.v 0)⟩,
     ⟨.slot 1, 17, none, .mov (.v 3)⟩,
     ⟨.slot 2, 18, none, .ixAddr 5 (.s 0) (.s 1)⟩,
     ⟨.slot 3, 19, none, .load true 5 (.s 2)⟩,
     ⟨.slot 4, 20, none, .mov (.v 1)⟩,
     ⟨.slot 5, 21, none, .mov (.v 3)⟩,
     ⟨.slot 6, 22, none, .ixAddr 5 (.s 4) (.s 5)⟩,
     ⟨.slot 7, 23, none, .load true 5 (.s 6)⟩,
     ⟨.slot 8, 24, none, .eqA true [1, 2, 2, 1, 0] (.s 3) (.s 7)⟩] [] (.cond (.s 8)
   (.seq (.region false [
       ⟨.var 2, 4, none, .mov (.c (.bool false))⟩])
    (.ret))
   (.skip)))))
 (.region false [
   ⟨.push, 25, none, .bin false .add (.v 5) (.c (.int .i64 (1)))⟩,
   ⟨.var 5, 13, none, .mov (.s 0)⟩])))
def ir66_k0 : List Bool := [true, true, false, false, true, true, false]
def ir66_o0 : List Bool := [false, false, false, false, false, false, false]
def ir66_r0 : List Bool := [false, false, true, false, false, false, false]
def ir66_v : List Nat := [0, 1, 4, 5, 12, 13, 14]
def ir66 : AFn := ⟨2, 7, .seq (.region false [
    ⟨.var 2, 4, none, .mov (.c (.bool false))⟩])
 (.seq (.test false [
    ⟨.push, 6, none, .mov (.v 0)⟩,
    ⟨.push, 7, none, .len false (.s 0)⟩,
    ⟨.push, 8, none, .mov (.v 1)⟩,
    ⟨.push, 9, none, .len false (.s 0)⟩,
    ⟨.push, 10, none, .bin false .neq (.s 2) (.s 0)⟩] (.s 0)
  (.seq (.region false [
      ⟨.var 2, 4, none, .mov (.c (.bool false))⟩])
   (.ret))
  (.skip))
 (.seq (.seq (.region false [
     ⟨.push, 11, none, .mov (.v 0)⟩,
     ⟨.var 4, 12, none, .len false (.s 0)⟩,
     ⟨.var 5, 13, none, .mov (.c (.int .i64 (0)))⟩])
  (.block 0 (.loop ir66_k0 ir66_o0 ir66_r0 ir66_b0)))
 (.seq (.region false [
    ⟨.var 2, 4, none, .mov (.c (.bool true))⟩])
 (.ret)))), [.t 2]⟩
noncomputable def t_slices_Equal_impl_Estimate_impl_Estimate : List (Nat × Ctr) := []
noncomputable def c_slices_Equal_impl_Estimate_impl_Estimate : Ctr := mkF t_slices_Equal_impl_Estimate_impl_Estimate ir66 [.bor, .bor]
theorem s_slices_Equal_impl_Estimate_impl_Estimate : Sound Try.prog 66 c_slices_Equal_impl_Estimate_impl_Estimate := mkF_sound _ rfl snd_nil (by kernel_rfl : chkFn Try.prog 66 ir66 ir66_v = true)
theorem M_slices_Equal_impl_Estimate_impl_Estimate : c_slices_Equal_impl_Estimate_impl_Estimate.modes = [.bor, .bor] := rfl
theorem Fl_slices_Equal_impl_Estimate_impl_Estimate : c_slices_Equal_impl_Estimate_impl_Estimate.flat = true := rfl
attribute [go_sem] M_slices_Equal_impl_Estimate_impl_Estimate Fl_slices_Equal_impl_Estimate_impl_Estimate
def E_slices_Equal_impl_Estimate_impl_Estimate_l1 (s1 : List Estimate) (s2 : List Estimate) (t12 : Int) : Int → St
  | t13 => ⟨[.sl 5 (List.map Estimate_av s1), .sl 5 (List.map Estimate_av s2), .any, .any, .int .i64 t12, .int .i64 t13, .any], [], [], true⟩
def R_slices_Equal_impl_Estimate_impl_Estimate_l1 (s1 : List Estimate) (s2 : List Estimate) (t12 : Int) : (Unit ⊕ Bool) → Res
  | .inl y => (.exit 0, ⟨[.any, .any, .any, .any, .any, .any, .any], [], [], true⟩)
  | .inr y => (.ret, ⟨[.any, .any, .bool y, .any, .any, .any, .any], [], [], true⟩)
theorem slices_Equal_impl_Estimate_impl_Estimate_l1_ex {s1 : List Estimate} {s2 : List Estimate} {t12 : Int} {sgm_ : Int} {rho_ : Unit ⊕ Bool} (h : whileE (slices_Equal_impl_Estimate_impl_Estimate_l1 s1 s2 t12) sgm_ = some rho_) : ∃ L0, ∀ L, L0 ≤ L → iter (exec (look t_slices_Equal_impl_Estimate_impl_Estimate) L ir66_b0) ir66_k0 ir66_o0 ir66_r0 L (E_slices_Equal_impl_Estimate_impl_Estimate_l1 s1 s2 t12 sgm_) = R_slices_Equal_impl_Estimate_impl_Estimate_l1 s1 s2 t12 rho_ := by
  refine loop_ex (E := E_slices_Equal_impl_Estimate_impl_Estimate_l1 s1 s2 t12) (R := R_slices_Equal_impl_Estimate_impl_Estimate_l1 s1 s2 t12) (fun y => by first | (intro c; cases c) | (rcases y with y | y <;> (intro c; cases c)) | (rcases y with y | y | y <;> (intro c; cases c))) ?_ h
  clear h
  intro t13 o_ h
  dsimp only [slices_Equal_impl_Estimate_impl_Estimate_l1] at h
  rcases it_some h with ⟨hk2, h⟩ | ⟨hk2, h⟩
  · try simp only [go_sem, n1, n2, n3, n4] at hk2
    all_goals
    obtain ⟨hk3, h⟩ := ck_some h
    have lhk3 := ix_lt hk3
    have xhk3 := getD_mapD Estimate_av s1 lhk3
    try simp only [go_sem] at lhk3
    try simp only [go_sem] at xhk3
    try simp only [go_sem, n1, n2, n3, n4, hk2] at hk3
    all_goals
    obtain ⟨hk4, h⟩ := ck_some h
    have lhk4 := ix_lt hk4
    have xhk4 := getD_mapD Estimate_av s2 lhk4
    try simp only [go_sem] at lhk4
    try simp only [go_sem] at xhk4
    try simp only [go_sem, n1, n2, n3, n4, hk2, hk3] at hk4
    all_goals
    rcases it_some h with ⟨hk5, h⟩ | ⟨hk5, h⟩
    · try simp only [go_sem, n1, n2, n3, n4, hk2, hk3, hk4] at hk5
      all_goals
      obtain rfl := so_some h
      refine ⟨0, fun L hL => ?_⟩
      simp only [go_sem, ir66, E_slices_Equal_impl_Estimate_impl_Estimate_l1, R_slices_Equal_impl_Estimate_impl_Estimate_l1, ir66_b0, ir66_k0, ir66_o0, ir66_r0, hk2, hk3, lhk3, xhk3, hk4, lhk4, xhk4, hk5]
    · try simp only [go_sem, n1, n2, n3, n4, hk2, hk3, hk4] at hk5
      all_goals
      obtain rfl := so_some h
      refine ⟨0, fun L hL => ?_⟩
      simp only [go_sem, ir66, E_slices_Equal_impl_Estimate_impl_Estimate_l1, R_slices_Equal_impl_Estimate_impl_Estimate_l1, ir66_b0, ir66_k0, ir66_o0, ir66_r0, hk2, hk3, lhk3, xhk3, hk4, lhk4, xhk4, hk5]
  · try simp only [go_sem, n1, n2, n3, n4] at hk2
    all_goals
    obtain rfl := so_some h
    refine ⟨0, fun L hL => ?_⟩
    simp only [go_sem, ir66, E_slices_Equal_impl_Estimate_impl_Estimate_l1, R_slices_Equal_impl_Estimate_impl_Estimate_l1, ir66_b0, ir66_k0, ir66_o0, ir66_r0, hk2]

theorem Fs_slices_Equal_impl_Estimate_impl_Estimate {s1 : List Estimate} {s2 : List Estimate} {y_ : Bool} (h : slices_Equal_impl_Estimate_impl_Estimate s1 s2 = some y_) : c_slices_Equal_impl_Estimate_impl_Estimate.F [.sl 5 (List.map Estimate_av s1), .sl 5 (List.map Estimate_av s2)] = ⟨true, .bool y_, [.any, .any]⟩ := by
  refine mkF_E rfl ?_
  dsimp only [slices_Equal_impl_Estimate_impl_Estimate] at h
  rcases it_some h with ⟨hk1, h⟩ | ⟨hk1, h⟩
  · try simp only [go_sem, n1, n2, n3, n4] at hk1
    all_goals
    obtain rfl := so_some h
    refine ⟨0, fun L hL => ?_⟩
    simp only [go_sem, ir66, E_slices_Equal_impl_Estimate_impl_Estimate_l1, R_slices_Equal_impl_Estimate_impl_Estimate_l1, ir66_k0, ir66_o0, ir66_r0, hk1]
  · try simp only [go_sem, n1, n2, n3, n4] at hk1
    all_goals
    obtain ⟨y_6, hk6, h⟩ := bd_some h
    obtain ⟨Lhk6, ehk6⟩ := slices_Equal_impl_Estimate_impl_Estimate_l1_ex hk6
    rcases y_6 with y_6a | y_6b
    · dsimp only at h
      obtain rfl := so_some h
      refine ⟨Lhk6, fun L hL => ?_⟩
      have ehk6 := ehk6 L (by omega)
      try simp only [go_sem, E_slices_Equal_impl_Estimate_impl_Estimate_l1, R_slices_Equal_impl_Estimate_impl_Estimate_l1, ir66_k0, ir66_o0, ir66_r0] at ehk6
      simp only [go_sem, ir66, E_slices_Equal_impl_Estimate_impl_Estimate_l1, R_slices_Equal_impl_Estimate_impl_Estimate_l1, ir66_k0, ir66_o0, ir66_r0, hk1, ehk6]
    · dsimp only at h
      obtain rfl := so_some h
      refine ⟨Lhk6, fun L hL => ?_⟩
      have ehk6 := ehk6 L (by omega)
      try simp only [go_sem, E_slices_Equal_impl_Estimate_impl_Estimate_l1, R_slices_Equal_impl_Estimate_impl_Estimate_l1, ir66_k0, ir66_o0, ir66_r0] at ehk6
      simp only [go_sem, ir66, E_slices_Equal_impl_Estimate_impl_Estimate_l1, R_slices_Equal_impl_Estimate_impl_Estimate_l1, ir66_k0, ir66_o0, ir66_r0, hk1, ehk6]


def ir47_v : List Nat := [0, 1, 4]
def ir47 : AFn := ⟨2, 3, .seq (.region false [
    ⟨.var 2, 4, none, .mov (.c (.bool false))⟩])
 (.seq (.region false [
    ⟨.push, 5, none, .mov (.v 0)⟩,
    ⟨.push, 6, none, .mov (.v 1)⟩,
    ⟨.push, 7, none, .call 66 [(.s 1), (.s 0)]⟩,
    ⟨.var 2, 4, none, .mov (.s 0)⟩])
 (.ret)), [.t 2]⟩
noncomputable def t_impl_SameEstimates : List (Nat × Ctr) := [(66, c_slices_Equal_impl_Estimate_impl_Estimate)]
theorem lk_impl_SameEstimates_66 : look t_impl_SameEstimates 66 = some c_slices_Equal_impl_Estimate_impl_Estimate := rfl
noncomputable def c_impl_SameEstimates : Ctr := mkF t_impl_SameEstimates ir47 [.bor, .bor]
theorem s_impl_SameEstimates : Sound Try.prog 47 c_impl_SameEstimates := mkF_sound _ rfl (snd_cons s_slices_Equal_impl_Estimate_impl_Estimate snd_nil) (by kernel_rfl : chkFn Try.prog 47 ir47 ir47_v = true)
theorem M_impl_SameEstimates : c_impl_SameEstimates.modes = [.bor, .bor] := rfl
theorem Fl_impl_SameEstimates : c_impl_SameEstimates.flat = true := rfl
attribute [go_sem] M_impl_SameEstimates Fl_impl_SameEstimates
attribute [go_sem] lk_impl_SameEstimates_66
theorem Fs_impl_SameEstimates {a : List Estimate} {b : List Estimate} {y_ : Bool} (h : impl_SameEstimates a b = some y_) : c_impl_SameEstimates.F [.sl 5 (List.map Estimate_av a), .sl 5 (List.map Estimate_av b)] = ⟨true, .bool y_, [.any, .any]⟩ := by
  refine mkF_E rfl ?_
  dsimp only [impl_SameEstimates] at h
  obtain ⟨y_1, hk1, h⟩ := bd_some h
  have fhk1 := Fs_slices_Equal_impl_Estimate_impl_Estimate hk1
  try simp only [go_sem] at fhk1
  obtain rfl := so_some h
  refine ⟨0, fun L hL => ?_⟩
  simp only [go_sem, ir47, fhk1]


def ir24_v : List Nat := [0, 1, 2, 3, 4]
def ir24 : AFn := ⟨2, 5, .seq (.region false [
    ⟨.var 2, 2, none, .box (.v 0)⟩,
    ⟨.var 3, 3, none, .box (.v 1)⟩,
    ⟨.var 4, 4, none, .mov (.c (.bool false))⟩])
 (.seq (.region false [
    ⟨.push, 5, none, .fldAddr 0 (.v 2)⟩,
    ⟨.push, 6, none, .load false 1 (.s 0)⟩,
    ⟨.push, 7, none, .fldAddr 0 (.v 3)⟩,
    ⟨.push, 8, none, .load false 1 (.s 0)⟩,
    ⟨.push, 9, none, .call 46 [(.s 2), (.s 0)]⟩,
    ⟨.push, 10, none, .mov (.s 0)⟩,
    ⟨.push, 11, (some ((.s 0), true)), .fldAddr 1 (.v 2)⟩,
    ⟨.push, 12, (some ((.s 1), true)), .load false 1 (.s 0)⟩,
    ⟨.push, 13, (some ((.s 2), true)), .fldAddr 1 (.v 3)⟩,
    ⟨.push, 14, (some ((.s 3), true)), .load false 1 (.s 0)⟩,
    ⟨.push, 15, (some ((.s 4), true)), .call 47 [(.s 2), (.s 0)]⟩,
    ⟨.push, 16, none, .pick (.s 5) (.s 0) (.c (.bool false))⟩,
    ⟨.push, 17, none, .mov (.s 0)⟩,
    ⟨.push, 18, (some ((.s 0), true)), .fldAddr 2 (.v 2)⟩,
    ⟨.push, 19, (some ((.s 1), true)), .load false 1 (.s 0)⟩,
    ⟨.push, 20, (some ((.s 2), true)), .fldAddr 2 (.v 3)⟩,
    ⟨.push, 21, (some ((.s 3), true)), .load false 1 (.s 0)⟩,
    ⟨.push, 22, (some ((.s 4), true)), .bin false .eql (.s 2) (.s 0)⟩,
    ⟨.push, 23, none, .pick (.s 5) (.s 0) (.c (.bool false))⟩,
    ⟨.var 4, 4, none, .mov (.s 0)⟩])
 (.ret)), [.t 4]⟩
noncomputable def t_impl_SameDesk : List (Nat × Ctr) := [(46, c_impl_SameStars), (47, c_impl_SameEstimates)]
theorem lk_impl_SameDesk_46 : look t_impl_SameDesk 46 = some c_impl_SameStars := rfl
theorem lk_impl_SameDesk_47 : look t_impl_SameDesk 47 = some c_impl_SameEstimates := rfl
noncomputable def c_impl_SameDesk : Ctr := mkF t_impl_SameDesk ir24 [.bor, .bor]
theorem s_impl_SameDesk : Sound Try.prog 24 c_impl_SameDesk := mkF_sound _ rfl (snd_cons s_impl_SameStars (snd_cons s_impl_SameEstimates snd_nil)) (by kernel_rfl : chkFn Try.prog 24 ir24 ir24_v = true)
theorem M_impl_SameDesk : c_impl_SameDesk.modes = [.bor, .bor] := rfl
theorem Fl_impl_SameDesk : c_impl_SameDesk.flat = true := rfl
attribute [go_sem] M_impl_SameDesk Fl_impl_SameDesk
attribute [go_sem] lk_impl_SameDesk_46 lk_impl_SameDesk_47
theorem Fs_impl_SameDesk {a : Desk} {b : Desk} {y_ : Bool} (h : impl_SameDesk a b = some y_) : c_impl_SameDesk.F [Desk_av a, Desk_av b] = ⟨true, .bool y_, [.any, .any]⟩ := by
  refine mkF_E rfl ?_
  dsimp only [impl_SameDesk] at h
  obtain ⟨y_1, hk1, h⟩ := bd_some h
  have fhk1 := Fs_impl_SameStars hk1
  try simp only [go_sem] at fhk1
  obtain ⟨hk2, h⟩ := ck_some h
  rcases or_split hk2 with ⟨ghk2, hk2⟩ | ghk2
  · try simp only [go_sem, n1, n2, n3, n4] at ghk2
    all_goals
    obtain ⟨y_2, hhk2⟩ := Option.isSome_iff_exists.1 hk2
    have fhk2 := Fs_impl_SameEstimates hhk2
    try simp only [go_sem] at fhk2
    obtain rfl := so_some h
    refine ⟨0, fun L hL => ?_⟩
    simp only [go_sem, ir24, fhk1, ghk2, hhk2, fhk2]
  · try simp only [go_sem, n1, n2, n3, n4] at ghk2
    all_goals
    obtain rfl := so_some h
    refine ⟨0, fun L hL => ?_⟩
    simp only [go_sem, ir24, fhk1, ghk2]


def ir6_v : List Nat := [0, 1, 2, 3, 4, 5, 6, 7, 8, 9]
def ir6 : AFn := ⟨2, 10, .seq (.region false [
    ⟨.var 2, 2, none, .box (.v 0)⟩,
    ⟨.var 3, 3, none, .box (.v 1)⟩,
    ⟨.var 4, 4, none, .mov (.c (.bool false))⟩])
 (.seq (.region false [
    ⟨.var 5, 5, none, .mov (.c (.int .i64 (1048576)))⟩])
 (.seq (.region false [
    ⟨.push, 10, none, .load true 3 (.v 2)⟩,
    ⟨.push, 11, none, .mov (.v 5)⟩,
    ⟨.push, 12, none, .call 21 [(.s 1), (.s 0)]⟩,
    ⟨.var 5, 5, none, .mov (.s 0)⟩])
 (.seq (.test false [
    ⟨.push, 13, none, .mov (.v 5)⟩,
    ⟨.push, 14, none, .bin false .lss (.s 0) (.c (.int .i64 (0)))⟩] (.s 0)
  (.seq (.region false [
      ⟨.var 4, 4, none, .mov (.c (.bool true))⟩])
   (.ret))
  (.skip))
 (.seq (.region false [
    ⟨.push, 15, none, .load true 3 (.v 3)⟩,
    ⟨.push, 16, none, .mov (.v 5)⟩,
    ⟨.push, 17, none, .call 21 [(.s 1), (.s 0)]⟩,
    ⟨.var 5, 5, none, .mov (.s 0)⟩])
 (.seq (.test false [
    ⟨.push, 18, none, .mov (.v 5)⟩,
    ⟨.push, 19, none, .bin false .lss (.s 0) (.c (.int .i64 (0)))⟩] (.s 0)
  (.seq (.region false [
      ⟨.var 4, 4, none, .mov (.c (.bool true))⟩])
   (.ret))
  (.skip))
 (.seq (.anyo 5 [
    ⟨.slot 0, 20, none, .load true 3 (.v 2)⟩,
    ⟨.slot 1, 21, none, .pur (.call 23 [(.s 0)])⟩,
    ⟨.slot 2, 22, none, .load true 3 (.v 3)⟩,
    ⟨.slot 3, 23, none, .pur (.call 23 [(.s 2)])⟩,
    ⟨.slot 4, 24, none, .callp 22 [(.s 1), (.s 3)]⟩,
    ⟨.var 6, 6, none, .mov (.s 4)⟩] [] .skip)
 (.seq (.region false [
    ⟨.push, 25, none, .load true 3 (.v 2)⟩,
    ⟨.push, 26, none, .call 23 [(.s 0)]⟩,
    ⟨.var 7, 7, none, .alloc (.agg [.sl 5 [], .sl 5 [], .str []])⟩,
    ⟨.no, 0, none, .store 3 (.v 7) (.s 0)⟩])
 (.seq (.region false [
    ⟨.push, 27, none, .load true 3 (.v 3)⟩,
    ⟨.push, 28, none, .call 23 [(.s 0)]⟩,
    ⟨.var 8, 8, none, .alloc (.agg [.sl 5 [], .sl 5 [], .str []])⟩,
    ⟨.no, 0, none, .store 3 (.v 8) (.s 0)⟩])
 (.seq (.region false [
    ⟨.push, 29, none, .load true 3 (.v 7)⟩,
    ⟨.push, 30, none, .load true 3 (.v 8)⟩,
    ⟨.push, 31, none, .call 24 [(.s 1), (.s 0)]⟩,
    ⟨.var 9, 9, none, .mov (.s 0)⟩])
 (.seq (.test false [
    ⟨.push, 32, none, .mov (.v 9)⟩,
    ⟨.push, 33, none, .mov (.v 6)⟩,
    ⟨.push, 34, none, .bin true .neq (.s 1) (.s 0)⟩] (.s 0)
  (.seq (.region false [
      ⟨.var 4, 4, none, .mov (.c (.bool false))⟩])
   (.ret))
  (.skip))
 (.seq (.anyo 5 [
    ⟨.slot 0, 35, none, .load true 3 (.v 7)⟩,
    ⟨.slot 1, 36, none, .load true 3 (.v 2)⟩,
    ⟨.slot 2, 37, none, .pur (.call 23 [(.s 1)])⟩,
    ⟨.slot 3, 38, none, .callp 25 [(.s 0), (.s 2)]⟩,
    ⟨.slot 4, 39, none, .un .not (.s 3)⟩] [] (.cond (.s 4)
  (.seq (.region false [
      ⟨.var 4, 4, none, .mov (.c (.bool false))⟩])
   (.ret))
  (.skip)))
 (.seq (.anyo 5 [
    ⟨.slot 0, 40, none, .load true 3 (.v 8)⟩,
    ⟨.slot 1, 41, none, .load true 3 (.v 3)⟩,
    ⟨.slot 2, 42, none, .pur (.call 23 [(.s 1)])⟩,
    ⟨.slot 3, 43, none, .callp 25 [(.s 0), (.s 2)]⟩,
    ⟨.slot 4, 44, none, .un .not (.s 3)⟩] [] (.cond (.s 4)
  (.seq (.region false [
      ⟨.var 4, 4, none, .mov (.c (.bool false))⟩])
   (.ret))
  (.skip)))
 (.seq (.region false [
    ⟨.var 4, 4, none, .mov (.c (.bool true))⟩])
 (.ret)))))))))))))), [.t 4]⟩
noncomputable def t_laws_FnExactSameDesk : List (Nat × Ctr) := [(21, c_laws_szDesk), (23, c_laws_toDesk), (22, c_spec_SameDesk), (24, c_impl_SameDesk), (25, c_laws_eqDesk)]
theorem lk_laws_FnExactSameDesk_21 : look t_laws_FnExactSameDesk 21 = some c_laws_szDesk := rfl
theorem lk_laws_FnExactSameDesk_23 : look t_laws_FnExactSameDesk 23 = some c_laws_toDesk := rfl
theorem lk_laws_FnExactSameDesk_22 : look t_laws_FnExactSameDesk 22 = some c_spec_SameDesk := rfl
theorem lk_laws_FnExactSameDesk_24 : look t_laws_FnExactSameDesk 24 = some c_impl_SameDesk := rfl
theorem lk_laws_FnExactSameDesk_25 : look t_laws_FnExactSameDesk 25 = some c_laws_eqDesk := rfl
noncomputable def c_laws_FnExactSameDesk : Ctr := mkF t_laws_FnExactSameDesk ir6 [.bor, .bor]
theorem s_laws_FnExactSameDesk : Sound Try.prog 6 c_laws_FnExactSameDesk := mkF_sound _ rfl (snd_cons s_laws_szDesk (snd_cons s_laws_toDesk (snd_cons s_spec_SameDesk (snd_cons s_impl_SameDesk (snd_cons s_laws_eqDesk snd_nil))))) (by kernel_rfl : chkFn Try.prog 6 ir6 ir6_v = true)
theorem M_laws_FnExactSameDesk : c_laws_FnExactSameDesk.modes = [.bor, .bor] := rfl
theorem Fl_laws_FnExactSameDesk : c_laws_FnExactSameDesk.flat = true := rfl
attribute [go_sem] M_laws_FnExactSameDesk Fl_laws_FnExactSameDesk
attribute [go_sem] lk_laws_FnExactSameDesk_21 lk_laws_FnExactSameDesk_23 lk_laws_FnExactSameDesk_22 lk_laws_FnExactSameDesk_24 lk_laws_FnExactSameDesk_25
theorem Fs_laws_FnExactSameDesk {aA : Desk} {aB : Desk} {y_ : Bool} (h : laws_FnExactSameDesk aA aB = some y_) : c_laws_FnExactSameDesk.F [Desk_av aA, Desk_av aB] = ⟨true, .bool y_, [.any, .any]⟩ := by
  refine mkF_E rfl ?_
  dsimp only [laws_FnExactSameDesk] at h
  obtain ⟨y_1, hk1, h⟩ := bd_some h
  have fhk1 := Fs_laws_szDesk hk1
  try simp only [go_sem] at fhk1
  rcases it_some h with ⟨hk2, h⟩ | ⟨hk2, h⟩
  · try simp only [go_sem, n1, n2, n3, n4] at hk2
    all_goals
    obtain rfl := so_some h
    refine ⟨0, fun L hL => ?_⟩
    simp only [go_sem, ir6, fhk1, hk2]
  · try simp only [go_sem, n1, n2, n3, n4] at hk2
    all_goals
    obtain ⟨y_3, hk3, h⟩ := bd_some h
    have fhk3 := Fs_laws_szDesk hk3
    try simp only [go_sem] at fhk3
    rcases it_some h with ⟨hk4, h⟩ | ⟨hk4, h⟩
    · try simp only [go_sem, n1, n2, n3, n4, hk2] at hk4
      all_goals
      obtain rfl := so_some h
      refine ⟨0, fun L hL => ?_⟩
      simp only [go_sem, ir6, fhk1, hk2, fhk3, hk4]
    · try simp only [go_sem, n1, n2, n3, n4, hk2] at hk4
      all_goals
      obtain ⟨y_5, hk5, h⟩ := bd_some h
      have fhk5 := Fs_laws_toDesk hk5
      try simp only [go_sem] at fhk5
      obtain ⟨y_6, hk6, h⟩ := bd_some h
      have fhk6 := Fs_laws_toDesk hk6
      try simp only [go_sem] at fhk6
      obtain ⟨y_7, hk7, h⟩ := bd_some h
      have fhk7 := Fs_spec_SameDesk hk7
      try simp only [go_sem] at fhk7
      obtain ⟨y_8, hk8, h⟩ := bd_some h
      have fhk8 := Fs_impl_SameDesk hk8
      try simp only [go_sem] at fhk8
      rcases it_some h with ⟨hk9, h⟩ | ⟨hk9, h⟩
      · try simp only [go_sem, n1, n2, n3, n4, hk2, hk4] at hk9
        all_goals
        obtain rfl := so_some h
        refine ⟨0, fun L hL => ?_⟩
        simp only [go_sem, ir6, fhk1, hk2, fhk3, hk4, fhk5, fhk6, fhk7, fhk8, hk9]
      · try simp only [go_sem, n1, n2, n3, n4, hk2, hk4] at hk9
        all_goals
        obtain ⟨y_10, hk10, h⟩ := bd_some h
        have fhk10 := Fs_laws_eqDesk hk10
        try simp only [go_sem] at fhk10
        rcases it_some h with ⟨hk11, h⟩ | ⟨hk11, h⟩
        · try simp only [go_sem, n1, n2, n3, n4, hk2, hk4, hk9] at hk11
          all_goals
          obtain rfl := so_some h
          refine ⟨0, fun L hL => ?_⟩
          simp only [go_sem, ir6, fhk1, hk2, fhk3, hk4, fhk5, fhk6, fhk7, fhk8, hk9, fhk10, hk11]
        · try simp only [go_sem, n1, n2, n3, n4, hk2, hk4, hk9] at hk11
          all_goals
          obtain ⟨y_12, hk12, h⟩ := bd_some h
          have fhk12 := Fs_laws_eqDesk hk12
          try simp only [go_sem] at fhk12
          rcases it_some h with ⟨hk13, h⟩ | ⟨hk13, h⟩
          · try simp only [go_sem, n1, n2, n3, n4, hk2, hk4, hk9, hk11] at hk13
            all_goals
            obtain rfl := so_some h
            refine ⟨0, fun L hL => ?_⟩
            simp only [go_sem, ir6, fhk1, hk2, fhk3, hk4, fhk5, fhk6, fhk7, fhk8, hk9, fhk10, hk11, fhk12, hk13]
          · try simp only [go_sem, n1, n2, n3, n4, hk2, hk4, hk9, hk11] at hk13
            all_goals
            obtain rfl := so_some h
            refine ⟨0, fun L hL => ?_⟩
            simp only [go_sem, ir6, fhk1, hk2, fhk3, hk4, fhk5, fhk6, fhk7, fhk8, hk9, fhk10, hk11, fhk12, hk13]


end Go.Proofs.Ytndkifgpbmaicaa
