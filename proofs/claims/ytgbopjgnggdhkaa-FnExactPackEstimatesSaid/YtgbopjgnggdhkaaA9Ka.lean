/- Codes and contracts of the functions that A9 reaches, and that their typed forms say what they do. No condition. -/
import Derived.Test.YtgbopjgnggdhkaaR9T
import Derived.Test.YtgbopjgnggdhkaaEngSG
import Derived.Test.YtgbopjgnggdhkaaRows
import Derived.WalkKit
namespace Go.Proofs.Ytgbopjgnggdhkaa
open Go Go.RowKit
set_option linter.unusedVariables false
set_option linter.unusedSimpArgs false
set_option maxRecDepth 10000

def ir18_v : List Nat := [0, 1, 2, 4]
def ir18 : AFn := ⟨2, 4, .seq (.region false [
    ⟨.var 2, 2, none, .box (.v 0)⟩,
    ⟨.var 3, 4, none, .mov (.c (.int .i64 (0)))⟩])
 (.seq (.region false [
    ⟨.push, 5, none, .mov (.v 1)⟩,
    ⟨.push, 6, none, .fldAddr 1 (.v 2)⟩,
    ⟨.push, 7, none, .load false 1 (.s 0)⟩,
    ⟨.push, 8, none, .len true (.s 0)⟩,
    ⟨.push, 9, none, .bin false .sub (.s 3) (.s 0)⟩,
    ⟨.var 1, 1, none, .mov (.s 0)⟩])
 (.seq (.test false [
    ⟨.push, 10, none, .mov (.v 1)⟩,
    ⟨.push, 11, none, .bin false .lss (.s 0) (.c (.int .i64 (0)))⟩] (.s 0)
  (.seq (.region false [
      ⟨.var 3, 4, none, .mov (.c (.int .i64 (-1)))⟩])
   (.ret))
  (.skip))
 (.seq (.region false [
    ⟨.push, 12, none, .mov (.v 1)⟩,
    ⟨.push, 13, none, .fldAddr 2 (.v 2)⟩,
    ⟨.push, 14, none, .load false 1 (.s 0)⟩,
    ⟨.push, 15, none, .len true (.s 0)⟩,
    ⟨.push, 16, none, .bin false .sub (.s 3) (.s 0)⟩,
    ⟨.var 1, 1, none, .mov (.s 0)⟩])
 (.seq (.test false [
    ⟨.push, 17, none, .mov (.v 1)⟩,
    ⟨.push, 18, none, .bin false .lss (.s 0) (.c (.int .i64 (0)))⟩] (.s 0)
  (.seq (.region false [
      ⟨.var 3, 4, none, .mov (.c (.int .i64 (-1)))⟩])
   (.ret))
  (.skip))
 (.seq (.region false [
    ⟨.push, 19, none, .mov (.v 1)⟩,
    ⟨.var 3, 4, none, .mov (.s 0)⟩])
 (.ret)))))), [.t 3]⟩
noncomputable def t_laws_szEstimate : List (Nat × Ctr) := []
noncomputable def c_laws_szEstimate : Ctr := mkF t_laws_szEstimate ir18 [.bor, .bor]
theorem s_laws_szEstimate : Sound Try.prog 18 c_laws_szEstimate := mkF_sound _ rfl snd_nil (by kernel_rfl : chkFn Try.prog 18 ir18 ir18_v = true)
theorem M_laws_szEstimate : c_laws_szEstimate.modes = [.bor, .bor] := rfl
theorem Fl_laws_szEstimate : c_laws_szEstimate.flat = true := rfl
attribute [go_sem] M_laws_szEstimate Fl_laws_szEstimate
theorem Fs_laws_szEstimate {a : Estimate} {left_ : Int} {y_ : Int} (h : laws_szEstimate a left_ = some y_) : c_laws_szEstimate.F [Estimate_av a, .int .i64 left_] = ⟨true, .int .i64 y_, [.any, .any]⟩ := by
  refine mkF_E rfl ?_
  dsimp only [laws_szEstimate] at h
  rcases it_some h with ⟨hk1, h⟩ | ⟨hk1, h⟩
  · try simp only [go_sem, n1, n2, n3, n4] at hk1
    all_goals
    obtain rfl := so_some h
    refine ⟨0, fun L hL => ?_⟩
    simp only [go_sem, ir18, hk1]
  · try simp only [go_sem, n1, n2, n3, n4] at hk1
    all_goals
    rcases it_some h with ⟨hk2, h⟩ | ⟨hk2, h⟩
    · try simp only [go_sem, n1, n2, n3, n4, hk1] at hk2
      all_goals
      obtain rfl := so_some h
      refine ⟨0, fun L hL => ?_⟩
      simp only [go_sem, ir18, hk1, hk2]
    · try simp only [go_sem, n1, n2, n3, n4, hk1] at hk2
      all_goals
      obtain rfl := so_some h
      refine ⟨0, fun L hL => ?_⟩
      simp only [go_sem, ir18, hk1, hk2]


def ir5_b0 : IR := .seq (.test false [
    ⟨.push, 12, none, .mov (.v 3)⟩,
    ⟨.push, 13, none, .mov (.v 0)⟩,
    ⟨.push, 14, none, .len false (.s 0)⟩,
    ⟨.push, 15, none, .bin false .lss (.s 2) (.s 0)⟩] (.s 0)
  (.skip)
  (.exit 0))
 (.seq (.block 1 (.seq (.region false [
      ⟨.push, 18, none, .mov (.v 0)⟩,
      ⟨.push, 19, none, .mov (.v 3)⟩,
      ⟨.push, 20, none, .ixAddr 5 (.s 1) (.s 0)⟩,
      ⟨.push, 21, none, .load true 5 (.s 0)⟩,
      ⟨.push, 22, none, .mov (.v 1)⟩,
      ⟨.push, 23, none, .call 18 [(.s 1), (.s 0)]⟩,
      ⟨.var 1, 1, none, .mov (.s 0)⟩])
   (.test false [
     ⟨.push, 24, none, .mov (.v 1)⟩,
     ⟨.push, 25, none, .bin false .lss (.s 0) (.c (.int .i64 (0)))⟩] (.s 0)
   (.seq (.region false [
       ⟨.var 2, 4, none, .mov (.c (.int .i64 (-1)))⟩])
    (.ret))
   (.skip))))
 (.region false [
   ⟨.push, 16, none, .mov (.v 3)⟩,
   ⟨.push, 17, none, .bin false .add (.s 0) (.c (.int .i64 (1)))⟩,
   ⟨.var 3, 5, none, .mov (.s 0)⟩]))
def ir5_k0 : List Bool := [true, true, false, true]
def ir5_o0 : List Bool := [false, true, false, false]
def ir5_r0 : List Bool := [false, false, true, false]
def ir5_v : List Nat := [0, 1, 4, 5]
def ir5 : AFn := ⟨2, 4, .seq (.region false [
    ⟨.var 2, 4, none, .mov (.c (.int .i64 (0)))⟩])
 (.seq (.region false [
    ⟨.push, 6, none, .mov (.v 1)⟩,
    ⟨.push, 7, none, .mov (.v 0)⟩,
    ⟨.push, 8, none, .len false (.s 0)⟩,
    ⟨.push, 9, none, .bin false .sub (.s 2) (.s 0)⟩,
    ⟨.var 1, 1, none, .mov (.s 0)⟩])
 (.seq (.test false [
    ⟨.push, 10, none, .mov (.v 1)⟩,
    ⟨.push, 11, none, .bin false .lss (.s 0) (.c (.int .i64 (0)))⟩] (.s 0)
  (.seq (.region false [
      ⟨.var 2, 4, none, .mov (.c (.int .i64 (-1)))⟩])
   (.ret))
  (.skip))
 (.seq (.seq (.region false [
     ⟨.var 3, 5, none, .mov (.c (.int .i64 (0)))⟩])
  (.block 0 (.loop ir5_k0 ir5_o0 ir5_r0 ir5_b0)))
 (.seq (.region false [
    ⟨.push, 26, none, .mov (.v 1)⟩,
    ⟨.var 2, 4, none, .mov (.s 0)⟩])
 (.ret))))), [.t 2]⟩
noncomputable def t_laws_szEstimateS : List (Nat × Ctr) := [(18, c_laws_szEstimate)]
theorem lk_laws_szEstimateS_18 : look t_laws_szEstimateS 18 = some c_laws_szEstimate := rfl
noncomputable def c_laws_szEstimateS : Ctr := mkF t_laws_szEstimateS ir5 [.bor, .bor]
theorem s_laws_szEstimateS : Sound Try.prog 5 c_laws_szEstimateS := mkF_sound _ rfl (snd_cons s_laws_szEstimate snd_nil) (by kernel_rfl : chkFn Try.prog 5 ir5 ir5_v = true)
theorem M_laws_szEstimateS : c_laws_szEstimateS.modes = [.bor, .bor] := rfl
theorem Fl_laws_szEstimateS : c_laws_szEstimateS.flat = true := rfl
attribute [go_sem] M_laws_szEstimateS Fl_laws_szEstimateS
attribute [go_sem] lk_laws_szEstimateS_18
def E_laws_szEstimateS_l1 (a : List Estimate) : (Int × Int) → St
  | (left_, i) => ⟨[.sl 5 (List.map Estimate_av a), .int .i64 left_, .any, .int .i64 i], [], [], true⟩
def R_laws_szEstimateS_l1 (a : List Estimate) : (Int ⊕ Int) → Res
  | .inl y => (.exit 0, ⟨[.any, .int .i64 y, .any, .any], [], [], true⟩)
  | .inr y => (.ret, ⟨[.any, .any, .int .i64 y, .any], [], [], true⟩)
theorem laws_szEstimateS_l1_ex {a : List Estimate} {sgm_ : Int × Int} {rho_ : Int ⊕ Int} (h : whileE (laws_szEstimateS_l1 a) sgm_ = some rho_) : ∃ L0, ∀ L, L0 ≤ L → iter (exec (look t_laws_szEstimateS) L ir5_b0) ir5_k0 ir5_o0 ir5_r0 L (E_laws_szEstimateS_l1 a sgm_) = R_laws_szEstimateS_l1 a rho_ := by
  refine loop_ex (E := E_laws_szEstimateS_l1 a) (R := R_laws_szEstimateS_l1 a) (fun y => by first | (intro c; cases c) | (rcases y with y | y <;> (intro c; cases c)) | (rcases y with y | y | y <;> (intro c; cases c))) ?_ h
  clear h
  rintro ⟨left_, i⟩ o_ h
  dsimp only [laws_szEstimateS_l1] at h
  rcases it_some h with ⟨hk2, h⟩ | ⟨hk2, h⟩
  · try simp only [go_sem, n1, n2, n3, n4] at hk2
    all_goals
    obtain ⟨hk3, h⟩ := ck_some h
    have lhk3 := ix_lt hk3
    have xhk3 := getD_mapD Estimate_av a lhk3
    try simp only [go_sem] at lhk3
    try simp only [go_sem] at xhk3
    try simp only [go_sem, n1, n2, n3, n4, hk2] at hk3
    all_goals
    obtain ⟨y_4, hk4, h⟩ := bd_some h
    have fhk4 := Fs_laws_szEstimate hk4
    try simp only [go_sem, hk2, hk3] at fhk4
    rcases it_some h with ⟨hk5, h⟩ | ⟨hk5, h⟩
    · try simp only [go_sem, n1, n2, n3, n4, hk2, hk3] at hk5
      all_goals
      obtain rfl := so_some h
      refine ⟨0, fun L hL => ?_⟩
      simp only [go_sem, ir5, E_laws_szEstimateS_l1, R_laws_szEstimateS_l1, ir5_b0, ir5_k0, ir5_o0, ir5_r0, hk2, hk3, lhk3, xhk3, fhk4, hk5]
    · try simp only [go_sem, n1, n2, n3, n4, hk2, hk3] at hk5
      all_goals
      obtain rfl := so_some h
      refine ⟨0, fun L hL => ?_⟩
      simp only [go_sem, ir5, E_laws_szEstimateS_l1, R_laws_szEstimateS_l1, ir5_b0, ir5_k0, ir5_o0, ir5_r0, hk2, hk3, lhk3, xhk3, fhk4, hk5]
  · try simp only [go_sem, n1, n2, n3, n4] at hk2
    all_goals
    obtain rfl := so_some h
    refine ⟨0, fun L hL => ?_⟩
    simp only [go_sem, ir5, E_laws_szEstimateS_l1, R_laws_szEstimateS_l1, ir5_b0, ir5_k0, ir5_o0, ir5_r0, hk2]

theorem Fs_laws_szEstimateS {a : List Estimate} {left_ : Int} {y_ : Int} (h : laws_szEstimateS a left_ = some y_) : c_laws_szEstimateS.F [.sl 5 (List.map Estimate_av a), .int .i64 left_] = ⟨true, .int .i64 y_, [.any, .any]⟩ := by
  refine mkF_E rfl ?_
  dsimp only [laws_szEstimateS] at h
  rcases it_some h with ⟨hk1, h⟩ | ⟨hk1, h⟩
  · try simp only [go_sem, n1, n2, n3, n4] at hk1
    all_goals
    obtain rfl := so_some h
    refine ⟨0, fun L hL => ?_⟩
    simp only [go_sem, ir5, E_laws_szEstimateS_l1, R_laws_szEstimateS_l1, ir5_k0, ir5_o0, ir5_r0, hk1]
  · try simp only [go_sem, n1, n2, n3, n4] at hk1
    all_goals
    obtain ⟨y_6, hk6, h⟩ := bd_some h
    obtain ⟨Lhk6, ehk6⟩ := laws_szEstimateS_l1_ex hk6
    rcases y_6 with y_6a | y_6b
    · dsimp only at h
      obtain rfl := so_some h
      refine ⟨Lhk6, fun L hL => ?_⟩
      have ehk6 := ehk6 L (by omega)
      try simp only [go_sem, E_laws_szEstimateS_l1, R_laws_szEstimateS_l1, ir5_k0, ir5_o0, ir5_r0, hk1] at ehk6
      simp only [go_sem, ir5, E_laws_szEstimateS_l1, R_laws_szEstimateS_l1, ir5_k0, ir5_o0, ir5_r0, hk1, ehk6]
    · dsimp only at h
      obtain rfl := so_some h
      refine ⟨Lhk6, fun L hL => ?_⟩
      have ehk6 := ehk6 L (by omega)
      try simp only [go_sem, E_laws_szEstimateS_l1, R_laws_szEstimateS_l1, ir5_k0, ir5_o0, ir5_r0, hk1] at ehk6
      simp only [go_sem, ir5, E_laws_szEstimateS_l1, R_laws_szEstimateS_l1, ir5_k0, ir5_o0, ir5_r0, hk1, ehk6]


def ir21_v : List Nat := [0, 1, 2, 3]
def ir21 : AFn := ⟨1, 4, .seq (.region false [
    ⟨.var 1, 1, none, .box (.v 0)⟩,
    ⟨.var 2, 2, none, .alloc (.agg [.int .i64 (0), .str [], .str [], .int .i64 (0), .bool false])⟩])
 (.seq (.region false [
    ⟨.var 3, 3, none, .alloc (.agg [.int .i64 (0), .str [], .str [], .int .i64 (0), .bool false])⟩])
 (.seq (.region false [
    ⟨.push, 4, none, .fldAddr 0 (.v 1)⟩,
    ⟨.push, 5, none, .load false 1 (.s 0)⟩,
    ⟨.push, 6, none, .fldAddr 0 (.v 3)⟩,
    ⟨.no, 0, none, .store 1 (.s 0) (.s 1)⟩])
 (.seq (.region false [
    ⟨.push, 7, none, .fldAddr 1 (.v 1)⟩,
    ⟨.push, 8, none, .load false 1 (.s 0)⟩,
    ⟨.push, 9, none, .fldAddr 1 (.v 3)⟩,
    ⟨.no, 0, none, .store 1 (.s 0) (.s 1)⟩])
 (.seq (.region false [
    ⟨.push, 10, none, .fldAddr 2 (.v 1)⟩,
    ⟨.push, 11, none, .load false 1 (.s 0)⟩,
    ⟨.push, 12, none, .fldAddr 2 (.v 3)⟩,
    ⟨.no, 0, none, .store 1 (.s 0) (.s 1)⟩])
 (.seq (.region false [
    ⟨.push, 13, none, .fldAddr 3 (.v 1)⟩,
    ⟨.push, 14, none, .load false 1 (.s 0)⟩,
    ⟨.push, 15, none, .fldAddr 3 (.v 3)⟩,
    ⟨.no, 0, none, .store 1 (.s 0) (.s 1)⟩])
 (.seq (.region false [
    ⟨.push, 16, none, .fldAddr 4 (.v 1)⟩,
    ⟨.push, 17, none, .load false 1 (.s 0)⟩,
    ⟨.push, 18, none, .fldAddr 4 (.v 3)⟩,
    ⟨.no, 0, none, .store 1 (.s 0) (.s 1)⟩])
 (.seq (.region false [
    ⟨.push, 19, none, .load true 5 (.v 3)⟩,
    ⟨.no, 0, none, .store 5 (.v 2) (.s 0)⟩])
 (.ret)))))))), [.cell true 5 2]⟩
noncomputable def t_laws_toEstimate : List (Nat × Ctr) := []
noncomputable def c_laws_toEstimate : Ctr := mkN t_laws_toEstimate ir21 [.bor]
theorem s_laws_toEstimate : Sound Try.prog 21 c_laws_toEstimate := mkN_sound _ snd_nil (by kernel_rfl : chkFn Try.prog 21 ir21 ir21_v = true)
theorem M_laws_toEstimate : c_laws_toEstimate.modes = [.bor] := rfl
theorem Fl_laws_toEstimate : c_laws_toEstimate.flat = false := rfl
attribute [go_sem] M_laws_toEstimate Fl_laws_toEstimate
theorem Fs_laws_toEstimate {a : Estimate} {y_ : Estimate} (h : laws_toEstimate a = some y_) : c_laws_toEstimate.F [Estimate_av a] = ⟨true, Estimate_av y_, [.any]⟩ := by
  refine mkN_E ?_
  dsimp only [laws_toEstimate] at h
  obtain rfl := so_some h
  refine ⟨0, fun L hL => ?_⟩
  simp only [go_sem, ir21]


def ir7_b0 : IR := .seq (.test false [
    ⟨.push, 8, none, .mov (.v 3)⟩,
    ⟨.push, 9, none, .mov (.v 0)⟩,
    ⟨.push, 10, none, .len false (.s 0)⟩,
    ⟨.push, 11, none, .bin false .lss (.s 2) (.s 0)⟩] (.s 0)
  (.skip)
  (.exit 0))
 (.seq (.block 1 (.region false [
     ⟨.push, 14, none, .mov (.v 2)⟩,
     ⟨.push, 15, none, .mov (.v 3)⟩,
     ⟨.push, 16, none, .mov (.v 0)⟩,
     ⟨.push, 17, none, .mov (.v 3)⟩,
     ⟨.push, 18, none, .ixAddr 5 (.s 1) (.s 0)⟩,
     ⟨.push, 19, none, .load true 5 (.s 0)⟩,
     ⟨.push, 20, none, .call 21 [(.s 0)]⟩,
     ⟨.push, 21, none, .ixAddr 5 (.s 6) (.s 5)⟩,
     ⟨.no, 0, none, .store 5 (.s 0) (.s 1)⟩]))
 (.region false [
   ⟨.push, 12, none, .mov (.v 3)⟩,
   ⟨.push, 13, none, .bin false .add (.s 0) (.c (.int .i64 (1)))⟩,
   ⟨.var 3, 4, none, .mov (.s 0)⟩]))
def ir7_k0 : List Bool := [true, false, true, true]
def ir7_o0 : List Bool := [false, false, true, false]
def ir7_r0 : List Bool := [false, true, false, false]
def ir7_v : List Nat := [0, 2, 3, 4]
def ir7 : AFn := ⟨1, 4, .seq (.region false [
    ⟨.var 1, 2, none, .newnil 5⟩])
 (.seq (.region false [
    ⟨.push, 5, none, .mov (.v 0)⟩,
    ⟨.push, 6, none, .len false (.s 0)⟩,
    ⟨.push, 7, none, .make 5 56 (.agg [.int .i64 (0), .str [], .str [], .int .i64 (0), .bool false]) (.s 0) (.s 0)⟩,
    ⟨.var 2, 3, none, .mov (.s 0)⟩])
 (.seq (.seq (.region false [
     ⟨.var 3, 4, none, .mov (.c (.int .i64 (0)))⟩])
  (.block 0 (.loop ir7_k0 ir7_o0 ir7_r0 ir7_b0)))
 (.seq (.region false [
    ⟨.push, 22, none, .mov (.v 2)⟩,
    ⟨.var 1, 2, none, .mov (.s 0)⟩])
 (.ret)))), [.t 1]⟩
noncomputable def t_laws_toEstimateS : List (Nat × Ctr) := [(21, c_laws_toEstimate)]
theorem lk_laws_toEstimateS_21 : look t_laws_toEstimateS 21 = some c_laws_toEstimate := rfl
noncomputable def c_laws_toEstimateS : Ctr := mkF t_laws_toEstimateS ir7 [.bor]
theorem s_laws_toEstimateS : Sound Try.prog 7 c_laws_toEstimateS := mkF_sound _ rfl (snd_cons s_laws_toEstimate snd_nil) (by kernel_rfl : chkFn Try.prog 7 ir7 ir7_v = true)
theorem M_laws_toEstimateS : c_laws_toEstimateS.modes = [.bor] := rfl
theorem Fl_laws_toEstimateS : c_laws_toEstimateS.flat = true := rfl
attribute [go_sem] M_laws_toEstimateS Fl_laws_toEstimateS
attribute [go_sem] lk_laws_toEstimateS_21
def E_laws_toEstimateS_l1 (a : List Estimate) : ((List Estimate) × Int) → St
  | (out, i) => ⟨[.sl 5 (List.map Estimate_av a), .any, .own 3200000, .int .i64 i], [], [(3200000, ⟨5, List.map Estimate_av out⟩)], true⟩
def R_laws_toEstimateS_l1 (a : List Estimate) (y : (List Estimate)) : Res := (.exit 0, ⟨[.any, .any, .own 3200000, .any], [], [(3200000, ⟨5, List.map Estimate_av y⟩)], true⟩)
theorem laws_toEstimateS_l1_ex {a : List Estimate} {sgm_ : (List Estimate) × Int} {rho_ : (List Estimate)} (h : whileE (laws_toEstimateS_l1 a) sgm_ = some rho_) : ∃ L0, ∀ L, L0 ≤ L → iter (exec (look t_laws_toEstimateS) L ir7_b0) ir7_k0 ir7_o0 ir7_r0 L (E_laws_toEstimateS_l1 a sgm_) = R_laws_toEstimateS_l1 a rho_ := by
  refine loop_ex (E := E_laws_toEstimateS_l1 a) (R := R_laws_toEstimateS_l1 a) (fun y => by first | (intro c; cases c) | (rcases y with y | y <;> (intro c; cases c)) | (rcases y with y | y | y <;> (intro c; cases c))) ?_ h
  clear h
  rintro ⟨out, i⟩ o_ h
  dsimp only [laws_toEstimateS_l1] at h
  rcases it_some h with ⟨hk2, h⟩ | ⟨hk2, h⟩
  · try simp only [go_sem, n1, n2, n3, n4] at hk2
    all_goals
    obtain ⟨hk3, h⟩ := ck_some h
    have lhk3 := ix_lt hk3
    have xhk3 := getD_mapD Estimate_av a lhk3
    try simp only [go_sem] at lhk3
    try simp only [go_sem] at xhk3
    try simp only [go_sem, n1, n2, n3, n4, hk2] at hk3
    all_goals
    obtain ⟨y_4, hk4, h⟩ := bd_some h
    have fhk4 := Fs_laws_toEstimate hk4
    try simp only [go_sem, hk2, hk3] at fhk4
    obtain ⟨hk5, h⟩ := ck_some h
    have lhk5 := ix_lt hk5
    have xhk5 := getD_mapD Estimate_av out lhk5
    try simp only [go_sem] at lhk5
    try simp only [go_sem] at xhk5
    try simp only [go_sem, n1, n2, n3, n4, hk2, hk3] at hk5
    all_goals
    obtain rfl := so_some h
    refine ⟨0, fun L hL => ?_⟩
    simp only [go_sem, ir7, E_laws_toEstimateS_l1, R_laws_toEstimateS_l1, ir7_b0, ir7_k0, ir7_o0, ir7_r0, hk2, hk3, lhk3, xhk3, fhk4, hk5, lhk5, xhk5]
  · try simp only [go_sem, n1, n2, n3, n4] at hk2
    all_goals
    obtain rfl := so_some h
    refine ⟨0, fun L hL => ?_⟩
    simp only [go_sem, ir7, E_laws_toEstimateS_l1, R_laws_toEstimateS_l1, ir7_b0, ir7_k0, ir7_o0, ir7_r0, hk2]

theorem Fs_laws_toEstimateS {a : List Estimate} {y_ : (List Estimate)} (h : laws_toEstimateS a = some y_) : c_laws_toEstimateS.F [.sl 5 (List.map Estimate_av a)] = ⟨true, .fresh 5 (List.map Estimate_av y_), [.any]⟩ := by
  refine mkF_E (by simp only [flatA, flatB, flat1, List.all_cons, List.all_nil, Bool.and_self, flatE_map (f := Estimate_av) (fun _ => rfl)]) ?_
  dsimp only [laws_toEstimateS] at h
  obtain ⟨hk1, h⟩ := ck_some h
  try simp only [go_sem, n1, n2, n3, n4] at hk1
  all_goals
  obtain ⟨y_6, hk6, h⟩ := bd_some h
  obtain ⟨Lhk6, ehk6⟩ := laws_toEstimateS_l1_ex hk6
  obtain rfl := so_some h
  refine ⟨Lhk6, fun L hL => ?_⟩
  have ehk6 := ehk6 L (by omega)
  try simp only [go_sem, E_laws_toEstimateS_l1, R_laws_toEstimateS_l1, ir7_k0, ir7_o0, ir7_r0, hk1] at ehk6
  simp only [go_sem, ir7, E_laws_toEstimateS_l1, R_laws_toEstimateS_l1, ir7_k0, ir7_o0, ir7_r0, hk1, ehk6]


def ir77_v : List Nat := [0, 1, 2, 6]
def ir77 : AFn := ⟨3, 4, .seq (.region false [
    ⟨.var 3, 6, none, .mov (.c (.bool false))⟩])
 (.seq (.region false [
    ⟨.push, 7, none, .mov (.v 0)⟩,
    ⟨.push, 8, none, .mov (.v 1)⟩,
    ⟨.push, 9, none, .bin false .geq (.s 1) (.s 0)⟩,
    ⟨.push, 10, none, .mov (.s 0)⟩,
    ⟨.push, 11, (some ((.s 0), true)), .mov (.v 0)⟩,
    ⟨.push, 12, (some ((.s 1), true)), .mov (.v 2)⟩,
    ⟨.push, 13, (some ((.s 2), true)), .bin false .leq (.s 1) (.s 0)⟩,
    ⟨.push, 14, none, .pick (.s 3) (.s 0) (.c (.bool false))⟩,
    ⟨.var 3, 6, none, .mov (.s 0)⟩])
 (.ret)), [.t 3]⟩
noncomputable def t_spec_l00In : List (Nat × Ctr) := []
noncomputable def c_spec_l00In : Ctr := mkF t_spec_l00In ir77 [.bor, .bor, .bor]
theorem s_spec_l00In : Sound Try.prog 77 c_spec_l00In := mkF_sound _ rfl snd_nil (by kernel_rfl : chkFn Try.prog 77 ir77 ir77_v = true)
theorem M_spec_l00In : c_spec_l00In.modes = [.bor, .bor, .bor] := rfl
theorem Fl_spec_l00In : c_spec_l00In.flat = true := rfl
attribute [go_sem] M_spec_l00In Fl_spec_l00In
theorem Fs_spec_l00In {n : Int} {low : Int} {high : Int} {y_ : Bool} (h : spec_l00In n low high = some y_) : c_spec_l00In.F [.int .i64 n, .int .i64 low, .int .i64 high] = ⟨true, .bool y_, [.any, .any, .any]⟩ := by
  refine mkF_E rfl ?_
  dsimp only [spec_l00In] at h
  obtain rfl := so_some h
  refine ⟨0, fun L hL => ?_⟩
  simp only [go_sem, ir77]


def ir63_v : List Nat := [0, 2]
def ir63 : AFn := ⟨1, 2, .seq (.region false [
    ⟨.var 1, 2, none, .mov (.c (.bool false))⟩])
 (.seq (.region false [
    ⟨.push, 3, none, .mov (.v 0)⟩,
    ⟨.push, 4, none, .call 77 [(.s 0), (.c (.int .i64 (0))), (.c (.int .i64 (10000000)))]⟩,
    ⟨.var 1, 2, none, .mov (.s 0)⟩])
 (.ret)), [.t 1]⟩
noncomputable def t_spec_l06Time : List (Nat × Ctr) := [(77, c_spec_l00In)]
theorem lk_spec_l06Time_77 : look t_spec_l06Time 77 = some c_spec_l00In := rfl
noncomputable def c_spec_l06Time : Ctr := mkF t_spec_l06Time ir63 [.bor]
theorem s_spec_l06Time : Sound Try.prog 63 c_spec_l06Time := mkF_sound _ rfl (snd_cons s_spec_l00In snd_nil) (by kernel_rfl : chkFn Try.prog 63 ir63 ir63_v = true)
theorem M_spec_l06Time : c_spec_l06Time.modes = [.bor] := rfl
theorem Fl_spec_l06Time : c_spec_l06Time.flat = true := rfl
attribute [go_sem] M_spec_l06Time Fl_spec_l06Time
attribute [go_sem] lk_spec_l06Time_77
theorem Fs_spec_l06Time {n : Int} {y_ : Bool} (h : spec_l06Time n = some y_) : c_spec_l06Time.F [.int .i64 n] = ⟨true, .bool y_, [.any]⟩ := by
  refine mkF_E rfl ?_
  dsimp only [spec_l06Time] at h
  obtain ⟨y_1, hk1, h⟩ := bd_some h
  have fhk1 := Fs_spec_l00In hk1
  try simp only [go_sem] at fhk1
  obtain rfl := so_some h
  refine ⟨0, fun L hL => ?_⟩
  simp only [go_sem, ir63, fhk1]


def ir78_v : List Nat := [0, 2]
def ir78 : AFn := ⟨1, 2, .seq (.region false [
    ⟨.var 1, 2, none, .mov (.c (.bool false))⟩])
 (.seq (.region false [
    ⟨.push, 3, none, .mov (.v 0)⟩,
    ⟨.push, 4, none, .bin false .geq (.s 0) (.c (.int .u8 (97)))⟩,
    ⟨.push, 5, none, .mov (.s 0)⟩,
    ⟨.push, 6, (some ((.s 0), true)), .mov (.v 0)⟩,
    ⟨.push, 7, (some ((.s 1), true)), .bin false .leq (.s 0) (.c (.int .u8 (122)))⟩,
    ⟨.push, 8, none, .pick (.s 2) (.s 0) (.c (.bool false))⟩,
    ⟨.var 1, 2, none, .mov (.s 0)⟩])
 (.ret)), [.t 1]⟩
noncomputable def t_spec_l01Small : List (Nat × Ctr) := []
noncomputable def c_spec_l01Small : Ctr := mkF t_spec_l01Small ir78 [.bor]
theorem s_spec_l01Small : Sound Try.prog 78 c_spec_l01Small := mkF_sound _ rfl snd_nil (by kernel_rfl : chkFn Try.prog 78 ir78 ir78_v = true)
theorem M_spec_l01Small : c_spec_l01Small.modes = [.bor] := rfl
theorem Fl_spec_l01Small : c_spec_l01Small.flat = true := rfl
attribute [go_sem] M_spec_l01Small Fl_spec_l01Small
theorem Fs_spec_l01Small {c : UInt8} {y_ : Bool} (h : spec_l01Small c = some y_) : c_spec_l01Small.F [.int .u8 (c.toNat : Int)] = ⟨true, .bool y_, [.any]⟩ := by
  refine mkF_E rfl ?_
  dsimp only [spec_l01Small] at h
  obtain rfl := so_some h
  refine ⟨0, fun L hL => ?_⟩
  simp only [go_sem, ir78]


def ir79_v : List Nat := [0, 2]
def ir79 : AFn := ⟨1, 2, .seq (.region false [
    ⟨.var 1, 2, none, .mov (.c (.bool false))⟩])
 (.seq (.region false [
    ⟨.push, 3, none, .mov (.v 0)⟩,
    ⟨.push, 4, none, .bin false .geq (.s 0) (.c (.int .u8 (48)))⟩,
    ⟨.push, 5, none, .mov (.s 0)⟩,
    ⟨.push, 6, (some ((.s 0), true)), .mov (.v 0)⟩,
    ⟨.push, 7, (some ((.s 1), true)), .bin false .leq (.s 0) (.c (.int .u8 (57)))⟩,
    ⟨.push, 8, none, .pick (.s 2) (.s 0) (.c (.bool false))⟩,
    ⟨.var 1, 2, none, .mov (.s 0)⟩])
 (.ret)), [.t 1]⟩
noncomputable def t_spec_l01Digit : List (Nat × Ctr) := []
noncomputable def c_spec_l01Digit : Ctr := mkF t_spec_l01Digit ir79 [.bor]
theorem s_spec_l01Digit : Sound Try.prog 79 c_spec_l01Digit := mkF_sound _ rfl snd_nil (by kernel_rfl : chkFn Try.prog 79 ir79 ir79_v = true)
theorem M_spec_l01Digit : c_spec_l01Digit.modes = [.bor] := rfl
theorem Fl_spec_l01Digit : c_spec_l01Digit.flat = true := rfl
attribute [go_sem] M_spec_l01Digit Fl_spec_l01Digit
theorem Fs_spec_l01Digit {c : UInt8} {y_ : Bool} (h : spec_l01Digit c = some y_) : c_spec_l01Digit.F [.int .u8 (c.toNat : Int)] = ⟨true, .bool y_, [.any]⟩ := by
  refine mkF_E rfl ?_
  dsimp only [spec_l01Digit] at h
  obtain rfl := so_some h
  refine ⟨0, fun L hL => ?_⟩
  simp only [go_sem, ir79]


def ir64_b0 : IR := .seq (.test false [
    ⟨.push, 17, none, .mov (.v 2)⟩,
    ⟨.push, 18, none, .mov (.v 0)⟩,
    ⟨.push, 19, none, .len true (.s 0)⟩,
    ⟨.push, 20, none, .bin false .lss (.s 2) (.s 0)⟩] (.s 0)
  (.skip)
  (.exit 0))
 (.seq (.block 1 (.test false [
     ⟨.push, 23, none, .mov (.v 0)⟩,
     ⟨.push, 24, none, .mov (.v 2)⟩,
     ⟨.push, 25, none, .ixStr (.s 1) (.s 0)⟩,
     ⟨.push, 26, none, .call 78 [(.s 0)]⟩,
     ⟨.push, 27, none, .un .not (.s 0)⟩,
     ⟨.push, 28, none, .mov (.s 0)⟩,
     ⟨.push, 29, (some ((.s 0), true)), .mov (.v 0)⟩,
     ⟨.push, 30, (some ((.s 1), true)), .mov (.v 2)⟩,
     ⟨.push, 31, (some ((.s 2), true)), .ixStr (.s 1) (.s 0)⟩,
     ⟨.push, 32, (some ((.s 3), true)), .call 79 [(.s 0)]⟩,
     ⟨.push, 33, (some ((.s 4), true)), .un .not (.s 0)⟩,
     ⟨.push, 34, none, .pick (.s 5) (.s 0) (.c (.bool false))⟩,
     ⟨.push, 35, none, .mov (.s 0)⟩,
     ⟨.push, 36, (some ((.s 0), true)), .mov (.v 0)⟩,
     ⟨.push, 37, (some ((.s 1), true)), .mov (.v 2)⟩,
     ⟨.push, 38, (some ((.s 2), true)), .ixStr (.s 1) (.s 0)⟩,
     ⟨.push, 39, (some ((.s 3), true)), .bin false .neq (.s 0) (.c (.int .u8 (45)))⟩,
     ⟨.push, 40, none, .pick (.s 4) (.s 0) (.c (.bool false))⟩] (.s 0)
   (.seq (.region false [
       ⟨.var 1, 2, none, .mov (.c (.bool false))⟩])
    (.ret))
   (.skip)))
 (.region false [
   ⟨.push, 21, none, .mov (.v 2)⟩,
   ⟨.push, 22, none, .bin false .add (.s 0) (.c (.int .i64 (1)))⟩,
   ⟨.var 2, 3, none, .mov (.s 0)⟩]))
def ir64_k0 : List Bool := [true, false, true]
def ir64_o0 : List Bool := [false, false, false]
def ir64_r0 : List Bool := [false, true, false]
def ir64_v : List Nat := [0, 2, 3]
def ir64 : AFn := ⟨1, 3, .seq (.region false [
    ⟨.var 1, 2, none, .mov (.c (.bool false))⟩])
 (.seq (.test false [
    ⟨.push, 4, none, .mov (.v 0)⟩,
    ⟨.push, 5, none, .bin false .eql (.s 0) (.c (.str []))⟩,
    ⟨.push, 6, none, .mov (.s 0)⟩,
    ⟨.push, 7, (some ((.s 0), false)), .mov (.v 0)⟩,
    ⟨.push, 8, (some ((.s 1), false)), .len true (.s 0)⟩,
    ⟨.push, 9, (some ((.s 2), false)), .bin false .gtr (.s 0) (.c (.int .i64 (12)))⟩,
    ⟨.push, 10, none, .pick (.s 3) (.c (.bool true)) (.s 0)⟩,
    ⟨.push, 11, none, .mov (.s 0)⟩,
    ⟨.push, 12, (some ((.s 0), false)), .mov (.v 0)⟩,
    ⟨.push, 13, (some ((.s 1), false)), .ixStr (.s 0) (.c (.int .i64 (0)))⟩,
    ⟨.push, 14, (some ((.s 2), false)), .call 78 [(.s 0)]⟩,
    ⟨.push, 15, (some ((.s 3), false)), .un .not (.s 0)⟩,
    ⟨.push, 16, none, .pick (.s 4) (.c (.bool true)) (.s 0)⟩] (.s 0)
  (.seq (.region false [
      ⟨.var 1, 2, none, .mov (.c (.bool false))⟩])
   (.ret))
  (.skip))
 (.seq (.seq (.region false [
     ⟨.var 2, 3, none, .mov (.c (.int .i64 (0)))⟩])
  (.block 0 (.loop ir64_k0 ir64_o0 ir64_r0 ir64_b0)))
 (.seq (.region false [
    ⟨.var 1, 2, none, .mov (.c (.bool true))⟩])
 (.ret)))), [.t 1]⟩
noncomputable def t_spec_IsName : List (Nat × Ctr) := [(78, c_spec_l01Small), (79, c_spec_l01Digit)]
theorem lk_spec_IsName_78 : look t_spec_IsName 78 = some c_spec_l01Small := rfl
theorem lk_spec_IsName_79 : look t_spec_IsName 79 = some c_spec_l01Digit := rfl
noncomputable def c_spec_IsName : Ctr := mkF t_spec_IsName ir64 [.bor]
theorem s_spec_IsName : Sound Try.prog 64 c_spec_IsName := mkF_sound _ rfl (snd_cons s_spec_l01Small (snd_cons s_spec_l01Digit snd_nil)) (by kernel_rfl : chkFn Try.prog 64 ir64 ir64_v = true)
theorem M_spec_IsName : c_spec_IsName.modes = [.bor] := rfl
theorem Fl_spec_IsName : c_spec_IsName.flat = true := rfl
attribute [go_sem] M_spec_IsName Fl_spec_IsName
attribute [go_sem] lk_spec_IsName_78 lk_spec_IsName_79
def E_spec_IsName_l1 (s_ : List UInt8) : Int → St
  | i => ⟨[.str s_, .any, .int .i64 i], [], [], true⟩
def R_spec_IsName_l1 (s_ : List UInt8) : (Unit ⊕ Bool) → Res
  | .inl y => (.exit 0, ⟨[.any, .any, .any], [], [], true⟩)
  | .inr y => (.ret, ⟨[.any, .bool y, .any], [], [], true⟩)
theorem spec_IsName_l1_ex {s_ : List UInt8} {sgm_ : Int} {rho_ : Unit ⊕ Bool} (h : whileE (spec_IsName_l1 s_) sgm_ = some rho_) : ∃ L0, ∀ L, L0 ≤ L → iter (exec (look t_spec_IsName) L ir64_b0) ir64_k0 ir64_o0 ir64_r0 L (E_spec_IsName_l1 s_ sgm_) = R_spec_IsName_l1 s_ rho_ := by
  refine loop_ex (E := E_spec_IsName_l1 s_) (R := R_spec_IsName_l1 s_) (fun y => by first | (intro c; cases c) | (rcases y with y | y <;> (intro c; cases c)) | (rcases y with y | y | y <;> (intro c; cases c))) ?_ h
  clear h
  intro i o_ h
  dsimp only [spec_IsName_l1] at h
  rcases it_some h with ⟨hk4, h⟩ | ⟨hk4, h⟩
  · try simp only [go_sem, n1, n2, n3, n4] at hk4
    all_goals
    obtain ⟨hk5, h⟩ := ck_some h
    try simp only [go_sem, n1, n2, n3, n4, hk4] at hk5
    all_goals
    obtain ⟨y_6, hk6, h⟩ := bd_some h
    have fhk6 := Fs_spec_l01Small hk6
    try simp only [go_sem, hk4, hk5] at fhk6
    obtain ⟨hk7, h⟩ := ck_some h
    rcases or_split hk7 with ⟨ghk7, hk7⟩ | ghk7
    · try simp only [go_sem, n1, n2, n3, n4, hk4, hk5] at ghk7
      all_goals
      obtain ⟨y_7, hhk7⟩ := Option.isSome_iff_exists.1 hk7
      have fhk7 := Fs_spec_l01Digit hhk7
      try simp only [go_sem, hk4, hk5, ghk7] at fhk7
      rcases it_some h with ⟨hk8, h⟩ | ⟨hk8, h⟩
      · try simp only [go_sem, n1, n2, n3, n4, hk4, hk5, ghk7, hhk7] at hk8
        all_goals
        obtain rfl := so_some h
        refine ⟨0, fun L hL => ?_⟩
        simp only [go_sem, ir64, E_spec_IsName_l1, R_spec_IsName_l1, ir64_b0, ir64_k0, ir64_o0, ir64_r0, hk4, hk5, fhk6, ghk7, hhk7, fhk7, hk8]
      · try simp only [go_sem, n1, n2, n3, n4, hk4, hk5, ghk7, hhk7] at hk8
        all_goals
        obtain rfl := so_some h
        refine ⟨0, fun L hL => ?_⟩
        simp only [go_sem, ir64, E_spec_IsName_l1, R_spec_IsName_l1, ir64_b0, ir64_k0, ir64_o0, ir64_r0, hk4, hk5, fhk6, ghk7, hhk7, fhk7, hk8]
    · have ghk7n := no_f ghk7
      try simp only [go_sem, n1, n2, n3, n4, hk4, hk5] at ghk7n
      all_goals
      rcases it_some h with ⟨hk8, h⟩ | ⟨hk8, h⟩
      · try simp only [go_sem, n1, n2, n3, n4, hk4, hk5, ghk7n] at hk8
        all_goals
        obtain rfl := so_some h
        refine ⟨0, fun L hL => ?_⟩
        simp only [go_sem, ir64, E_spec_IsName_l1, R_spec_IsName_l1, ir64_b0, ir64_k0, ir64_o0, ir64_r0, hk4, hk5, fhk6, ghk7n, hk8]
      · try simp only [go_sem, n1, n2, n3, n4, hk4, hk5, ghk7n] at hk8
        all_goals
        obtain rfl := so_some h
        refine ⟨0, fun L hL => ?_⟩
        simp only [go_sem, ir64, E_spec_IsName_l1, R_spec_IsName_l1, ir64_b0, ir64_k0, ir64_o0, ir64_r0, hk4, hk5, fhk6, ghk7n, hk8]
  · try simp only [go_sem, n1, n2, n3, n4] at hk4
    all_goals
    obtain rfl := so_some h
    refine ⟨0, fun L hL => ?_⟩
    simp only [go_sem, ir64, E_spec_IsName_l1, R_spec_IsName_l1, ir64_b0, ir64_k0, ir64_o0, ir64_r0, hk4]

theorem Fs_spec_IsName {s_ : List UInt8} {y_ : Bool} (h : spec_IsName s_ = some y_) : c_spec_IsName.F [.str s_] = ⟨true, .bool y_, [.any]⟩ := by
  refine mkF_E rfl ?_
  dsimp only [spec_IsName] at h
  obtain ⟨hk1, h⟩ := ck_some h
  rcases or_split hk1 with ⟨ghk1, hk1⟩ | ghk1
  · try simp only [go_sem, n1, n2, n3, n4] at ghk1
    all_goals
    try simp only [go_sem, n1, n2, n3, n4, ghk1] at hk1
    all_goals
    obtain ⟨hk2, h⟩ := ck_some h
    rcases or_split hk2 with ⟨ghk2, hk2⟩ | ghk2
    · try simp only [go_sem, n1, n2, n3, n4, ghk1, hk1] at ghk2
      all_goals
      obtain ⟨y_2, hhk2⟩ := Option.isSome_iff_exists.1 hk2
      have fhk2 := Fs_spec_l01Small hhk2
      try simp only [go_sem, ghk1, hk1, ghk2] at fhk2
      rcases it_some h with ⟨hk3, h⟩ | ⟨hk3, h⟩
      · try simp only [go_sem, n1, n2, n3, n4, ghk1, hk1, ghk2, hhk2] at hk3
        all_goals
        obtain rfl := so_some h
        refine ⟨0, fun L hL => ?_⟩
        simp only [go_sem, ir64, E_spec_IsName_l1, R_spec_IsName_l1, ir64_k0, ir64_o0, ir64_r0, ghk1, hk1, ghk2, hhk2, fhk2, hk3]
      · try simp only [go_sem, n1, n2, n3, n4, ghk1, hk1, ghk2, hhk2] at hk3
        all_goals
        obtain ⟨y_9, hk9, h⟩ := bd_some h
        obtain ⟨Lhk9, ehk9⟩ := spec_IsName_l1_ex hk9
        rcases y_9 with y_9a | y_9b
        · dsimp only at h
          obtain rfl := so_some h
          refine ⟨Lhk9, fun L hL => ?_⟩
          have ehk9 := ehk9 L (by omega)
          try simp only [go_sem, E_spec_IsName_l1, R_spec_IsName_l1, ir64_k0, ir64_o0, ir64_r0, ghk1, hk1, ghk2, hhk2, hk3] at ehk9
          simp only [go_sem, ir64, E_spec_IsName_l1, R_spec_IsName_l1, ir64_k0, ir64_o0, ir64_r0, ghk1, hk1, ghk2, hhk2, fhk2, hk3, ehk9]
        · dsimp only at h
          obtain rfl := so_some h
          refine ⟨Lhk9, fun L hL => ?_⟩
          have ehk9 := ehk9 L (by omega)
          try simp only [go_sem, E_spec_IsName_l1, R_spec_IsName_l1, ir64_k0, ir64_o0, ir64_r0, ghk1, hk1, ghk2, hhk2, hk3] at ehk9
          simp only [go_sem, ir64, E_spec_IsName_l1, R_spec_IsName_l1, ir64_k0, ir64_o0, ir64_r0, ghk1, hk1, ghk2, hhk2, fhk2, hk3, ehk9]
    · have ghk2n := no_f ghk2
      rcases or_t ghk2n with ghk2na | ⟨ghk2na, ghk2nb⟩
      · try simp only [go_sem, n1, n2, n3, n4, ghk1, hk1] at ghk2na
        all_goals
        rcases it_some h with ⟨hk3, h⟩ | ⟨hk3, h⟩
        · try simp only [go_sem, n1, n2, n3, n4, ghk1, hk1, ghk2na] at hk3
          all_goals
          obtain rfl := so_some h
          refine ⟨0, fun L hL => ?_⟩
          simp only [go_sem, ir64, E_spec_IsName_l1, R_spec_IsName_l1, ir64_k0, ir64_o0, ir64_r0, ghk1, hk1, ghk2na, hk3]
        · try simp only [go_sem, n1, n2, n3, n4, ghk1, hk1, ghk2na] at hk3
          all_goals
          obtain ⟨y_9, hk9, h⟩ := bd_some h
          obtain ⟨Lhk9, ehk9⟩ := spec_IsName_l1_ex hk9
          rcases y_9 with y_9a | y_9b
          · dsimp only at h
            obtain rfl := so_some h
            refine ⟨Lhk9, fun L hL => ?_⟩
            have ehk9 := ehk9 L (by omega)
            try simp only [go_sem, E_spec_IsName_l1, R_spec_IsName_l1, ir64_k0, ir64_o0, ir64_r0, ghk1, hk1, ghk2na, hk3] at ehk9
            simp only [go_sem, ir64, E_spec_IsName_l1, R_spec_IsName_l1, ir64_k0, ir64_o0, ir64_r0, ghk1, hk1, ghk2na, hk3, ehk9]
          · dsimp only at h
            obtain rfl := so_some h
            refine ⟨Lhk9, fun L hL => ?_⟩
            have ehk9 := ehk9 L (by omega)
            try simp only [go_sem, E_spec_IsName_l1, R_spec_IsName_l1, ir64_k0, ir64_o0, ir64_r0, ghk1, hk1, ghk2na, hk3] at ehk9
            simp only [go_sem, ir64, E_spec_IsName_l1, R_spec_IsName_l1, ir64_k0, ir64_o0, ir64_r0, ghk1, hk1, ghk2na, hk3, ehk9]
      · try simp only [go_sem, n1, n2, n3, n4, ghk1, hk1] at ghk2na
        all_goals
        try simp only [go_sem, n1, n2, n3, n4, ghk1, hk1, ghk2na] at ghk2nb
        all_goals
        rcases it_some h with ⟨hk3, h⟩ | ⟨hk3, h⟩
        · try simp only [go_sem, n1, n2, n3, n4, ghk1, hk1, ghk2na, ghk2nb] at hk3
          all_goals
          obtain rfl := so_some h
          refine ⟨0, fun L hL => ?_⟩
          simp only [go_sem, ir64, E_spec_IsName_l1, R_spec_IsName_l1, ir64_k0, ir64_o0, ir64_r0, ghk1, hk1, ghk2na, ghk2nb, hk3]
        · try simp only [go_sem, n1, n2, n3, n4, ghk1, hk1, ghk2na, ghk2nb] at hk3
          all_goals
          obtain ⟨y_9, hk9, h⟩ := bd_some h
          obtain ⟨Lhk9, ehk9⟩ := spec_IsName_l1_ex hk9
          rcases y_9 with y_9a | y_9b
          · dsimp only at h
            obtain rfl := so_some h
            refine ⟨Lhk9, fun L hL => ?_⟩
            have ehk9 := ehk9 L (by omega)
            try simp only [go_sem, E_spec_IsName_l1, R_spec_IsName_l1, ir64_k0, ir64_o0, ir64_r0, ghk1, hk1, ghk2na, ghk2nb, hk3] at ehk9
            simp only [go_sem, ir64, E_spec_IsName_l1, R_spec_IsName_l1, ir64_k0, ir64_o0, ir64_r0, ghk1, hk1, ghk2na, ghk2nb, hk3, ehk9]
          · dsimp only at h
            obtain rfl := so_some h
            refine ⟨Lhk9, fun L hL => ?_⟩
            have ehk9 := ehk9 L (by omega)
            try simp only [go_sem, E_spec_IsName_l1, R_spec_IsName_l1, ir64_k0, ir64_o0, ir64_r0, ghk1, hk1, ghk2na, ghk2nb, hk3] at ehk9
            simp only [go_sem, ir64, E_spec_IsName_l1, R_spec_IsName_l1, ir64_k0, ir64_o0, ir64_r0, ghk1, hk1, ghk2na, ghk2nb, hk3, ehk9]
  · have ghk1n := no_f ghk1
    rcases or_t ghk1n with ghk1na | ⟨ghk1na, ghk1nb⟩
    · try simp only [go_sem, n1, n2, n3, n4] at ghk1na
      all_goals
      obtain ⟨hk2, h⟩ := ck_some h
      rcases or_split hk2 with ⟨ghk2, hk2⟩ | ghk2
      · try simp only [go_sem, n1, n2, n3, n4, ghk1na] at ghk2
        all_goals
        obtain ⟨y_2, hhk2⟩ := Option.isSome_iff_exists.1 hk2
        have fhk2 := Fs_spec_l01Small hhk2
        try simp only [go_sem, ghk1na, ghk2] at fhk2
        rcases it_some h with ⟨hk3, h⟩ | ⟨hk3, h⟩
        · try simp only [go_sem, n1, n2, n3, n4, ghk1na, ghk2, hhk2] at hk3
          all_goals
          obtain rfl := so_some h
          refine ⟨0, fun L hL => ?_⟩
          simp only [go_sem, ir64, E_spec_IsName_l1, R_spec_IsName_l1, ir64_k0, ir64_o0, ir64_r0, ghk1na, ghk2, hhk2, fhk2, hk3]
        · try simp only [go_sem, n1, n2, n3, n4, ghk1na, ghk2, hhk2] at hk3
          all_goals
          obtain ⟨y_9, hk9, h⟩ := bd_some h
          obtain ⟨Lhk9, ehk9⟩ := spec_IsName_l1_ex hk9
          rcases y_9 with y_9a | y_9b
          · dsimp only at h
            obtain rfl := so_some h
            refine ⟨Lhk9, fun L hL => ?_⟩
            have ehk9 := ehk9 L (by omega)
            try simp only [go_sem, E_spec_IsName_l1, R_spec_IsName_l1, ir64_k0, ir64_o0, ir64_r0, ghk1na, ghk2, hhk2, hk3] at ehk9
            simp only [go_sem, ir64, E_spec_IsName_l1, R_spec_IsName_l1, ir64_k0, ir64_o0, ir64_r0, ghk1na, ghk2, hhk2, fhk2, hk3, ehk9]
          · dsimp only at h
            obtain rfl := so_some h
            refine ⟨Lhk9, fun L hL => ?_⟩
            have ehk9 := ehk9 L (by omega)
            try simp only [go_sem, E_spec_IsName_l1, R_spec_IsName_l1, ir64_k0, ir64_o0, ir64_r0, ghk1na, ghk2, hhk2, hk3] at ehk9
            simp only [go_sem, ir64, E_spec_IsName_l1, R_spec_IsName_l1, ir64_k0, ir64_o0, ir64_r0, ghk1na, ghk2, hhk2, fhk2, hk3, ehk9]
      · have ghk2n := no_f ghk2
        rcases or_t ghk2n with ghk2na | ⟨ghk2na, ghk2nb⟩
        · try simp only [go_sem, n1, n2, n3, n4, ghk1na] at ghk2na
          all_goals
          rcases it_some h with ⟨hk3, h⟩ | ⟨hk3, h⟩
          · try simp only [go_sem, n1, n2, n3, n4, ghk1na, ghk2na] at hk3
            all_goals
            obtain rfl := so_some h
            refine ⟨0, fun L hL => ?_⟩
            simp only [go_sem, ir64, E_spec_IsName_l1, R_spec_IsName_l1, ir64_k0, ir64_o0, ir64_r0, ghk1na, ghk2na, hk3]
          · try simp only [go_sem, n1, n2, n3, n4, ghk1na, ghk2na] at hk3
            all_goals
            obtain ⟨y_9, hk9, h⟩ := bd_some h
            obtain ⟨Lhk9, ehk9⟩ := spec_IsName_l1_ex hk9
            rcases y_9 with y_9a | y_9b
            · dsimp only at h
              obtain rfl := so_some h
              refine ⟨Lhk9, fun L hL => ?_⟩
              have ehk9 := ehk9 L (by omega)
              try simp only [go_sem, E_spec_IsName_l1, R_spec_IsName_l1, ir64_k0, ir64_o0, ir64_r0, ghk1na, ghk2na, hk3] at ehk9
              simp only [go_sem, ir64, E_spec_IsName_l1, R_spec_IsName_l1, ir64_k0, ir64_o0, ir64_r0, ghk1na, ghk2na, hk3, ehk9]
            · dsimp only at h
              obtain rfl := so_some h
              refine ⟨Lhk9, fun L hL => ?_⟩
              have ehk9 := ehk9 L (by omega)
              try simp only [go_sem, E_spec_IsName_l1, R_spec_IsName_l1, ir64_k0, ir64_o0, ir64_r0, ghk1na, ghk2na, hk3] at ehk9
              simp only [go_sem, ir64, E_spec_IsName_l1, R_spec_IsName_l1, ir64_k0, ir64_o0, ir64_r0, ghk1na, ghk2na, hk3, ehk9]
        · try simp only [go_sem, n1, n2, n3, n4, ghk1na] at ghk2na
          all_goals
          try simp only [go_sem, n1, n2, n3, n4, ghk1na, ghk2na] at ghk2nb
          all_goals
          rcases it_some h with ⟨hk3, h⟩ | ⟨hk3, h⟩
          · try simp only [go_sem, n1, n2, n3, n4, ghk1na, ghk2na, ghk2nb] at hk3
            all_goals
            obtain rfl := so_some h
            refine ⟨0, fun L hL => ?_⟩
            simp only [go_sem, ir64, E_spec_IsName_l1, R_spec_IsName_l1, ir64_k0, ir64_o0, ir64_r0, ghk1na, ghk2na, ghk2nb, hk3]
          · try simp only [go_sem, n1, n2, n3, n4, ghk1na, ghk2na, ghk2nb] at hk3
            all_goals
            obtain ⟨y_9, hk9, h⟩ := bd_some h
            obtain ⟨Lhk9, ehk9⟩ := spec_IsName_l1_ex hk9
            rcases y_9 with y_9a | y_9b
            · dsimp only at h
              obtain rfl := so_some h
              refine ⟨Lhk9, fun L hL => ?_⟩
              have ehk9 := ehk9 L (by omega)
              try simp only [go_sem, E_spec_IsName_l1, R_spec_IsName_l1, ir64_k0, ir64_o0, ir64_r0, ghk1na, ghk2na, ghk2nb, hk3] at ehk9
              simp only [go_sem, ir64, E_spec_IsName_l1, R_spec_IsName_l1, ir64_k0, ir64_o0, ir64_r0, ghk1na, ghk2na, ghk2nb, hk3, ehk9]
            · dsimp only at h
              obtain rfl := so_some h
              refine ⟨Lhk9, fun L hL => ?_⟩
              have ehk9 := ehk9 L (by omega)
              try simp only [go_sem, E_spec_IsName_l1, R_spec_IsName_l1, ir64_k0, ir64_o0, ir64_r0, ghk1na, ghk2na, ghk2nb, hk3] at ehk9
              simp only [go_sem, ir64, E_spec_IsName_l1, R_spec_IsName_l1, ir64_k0, ir64_o0, ir64_r0, ghk1na, ghk2na, ghk2nb, hk3, ehk9]
    · try simp only [go_sem, n1, n2, n3, n4] at ghk1na
      all_goals
      try simp only [go_sem, n1, n2, n3, n4, ghk1na] at ghk1nb
      all_goals
      obtain ⟨hk2, h⟩ := ck_some h
      rcases or_split hk2 with ⟨ghk2, hk2⟩ | ghk2
      · try simp only [go_sem, n1, n2, n3, n4, ghk1na, ghk1nb] at ghk2
        all_goals
        obtain ⟨y_2, hhk2⟩ := Option.isSome_iff_exists.1 hk2
        have fhk2 := Fs_spec_l01Small hhk2
        try simp only [go_sem, ghk1na, ghk1nb, ghk2] at fhk2
        rcases it_some h with ⟨hk3, h⟩ | ⟨hk3, h⟩
        · try simp only [go_sem, n1, n2, n3, n4, ghk1na, ghk1nb, ghk2, hhk2] at hk3
          all_goals
          obtain rfl := so_some h
          refine ⟨0, fun L hL => ?_⟩
          simp only [go_sem, ir64, E_spec_IsName_l1, R_spec_IsName_l1, ir64_k0, ir64_o0, ir64_r0, ghk1na, ghk1nb, ghk2, hhk2, fhk2, hk3]
        · try simp only [go_sem, n1, n2, n3, n4, ghk1na, ghk1nb, ghk2, hhk2] at hk3
          all_goals
          obtain ⟨y_9, hk9, h⟩ := bd_some h
          obtain ⟨Lhk9, ehk9⟩ := spec_IsName_l1_ex hk9
          rcases y_9 with y_9a | y_9b
          · dsimp only at h
            obtain rfl := so_some h
            refine ⟨Lhk9, fun L hL => ?_⟩
            have ehk9 := ehk9 L (by omega)
            try simp only [go_sem, E_spec_IsName_l1, R_spec_IsName_l1, ir64_k0, ir64_o0, ir64_r0, ghk1na, ghk1nb, ghk2, hhk2, hk3] at ehk9
            simp only [go_sem, ir64, E_spec_IsName_l1, R_spec_IsName_l1, ir64_k0, ir64_o0, ir64_r0, ghk1na, ghk1nb, ghk2, hhk2, fhk2, hk3, ehk9]
          · dsimp only at h
            obtain rfl := so_some h
            refine ⟨Lhk9, fun L hL => ?_⟩
            have ehk9 := ehk9 L (by omega)
            try simp only [go_sem, E_spec_IsName_l1, R_spec_IsName_l1, ir64_k0, ir64_o0, ir64_r0, ghk1na, ghk1nb, ghk2, hhk2, hk3] at ehk9
            simp only [go_sem, ir64, E_spec_IsName_l1, R_spec_IsName_l1, ir64_k0, ir64_o0, ir64_r0, ghk1na, ghk1nb, ghk2, hhk2, fhk2, hk3, ehk9]
      · have ghk2n := no_f ghk2
        rcases or_t ghk2n with ghk2na | ⟨ghk2na, ghk2nb⟩
        · try simp only [go_sem, n1, n2, n3, n4, ghk1na, ghk1nb] at ghk2na
          all_goals
          rcases it_some h with ⟨hk3, h⟩ | ⟨hk3, h⟩
          · try simp only [go_sem, n1, n2, n3, n4, ghk1na, ghk1nb, ghk2na] at hk3
            all_goals
            obtain rfl := so_some h
            refine ⟨0, fun L hL => ?_⟩
            simp only [go_sem, ir64, E_spec_IsName_l1, R_spec_IsName_l1, ir64_k0, ir64_o0, ir64_r0, ghk1na, ghk1nb, ghk2na, hk3]
          · try simp only [go_sem, n1, n2, n3, n4, ghk1na, ghk1nb, ghk2na] at hk3
            all_goals
            obtain ⟨y_9, hk9, h⟩ := bd_some h
            obtain ⟨Lhk9, ehk9⟩ := spec_IsName_l1_ex hk9
            rcases y_9 with y_9a | y_9b
            · dsimp only at h
              obtain rfl := so_some h
              refine ⟨Lhk9, fun L hL => ?_⟩
              have ehk9 := ehk9 L (by omega)
              try simp only [go_sem, E_spec_IsName_l1, R_spec_IsName_l1, ir64_k0, ir64_o0, ir64_r0, ghk1na, ghk1nb, ghk2na, hk3] at ehk9
              simp only [go_sem, ir64, E_spec_IsName_l1, R_spec_IsName_l1, ir64_k0, ir64_o0, ir64_r0, ghk1na, ghk1nb, ghk2na, hk3, ehk9]
            · dsimp only at h
              obtain rfl := so_some h
              refine ⟨Lhk9, fun L hL => ?_⟩
              have ehk9 := ehk9 L (by omega)
              try simp only [go_sem, E_spec_IsName_l1, R_spec_IsName_l1, ir64_k0, ir64_o0, ir64_r0, ghk1na, ghk1nb, ghk2na, hk3] at ehk9
              simp only [go_sem, ir64, E_spec_IsName_l1, R_spec_IsName_l1, ir64_k0, ir64_o0, ir64_r0, ghk1na, ghk1nb, ghk2na, hk3, ehk9]
        · try simp only [go_sem, n1, n2, n3, n4, ghk1na, ghk1nb] at ghk2na
          all_goals
          try simp only [go_sem, n1, n2, n3, n4, ghk1na, ghk1nb, ghk2na] at ghk2nb
          all_goals
          rcases it_some h with ⟨hk3, h⟩ | ⟨hk3, h⟩
          · try simp only [go_sem, n1, n2, n3, n4, ghk1na, ghk1nb, ghk2na, ghk2nb] at hk3
            all_goals
            obtain rfl := so_some h
            refine ⟨0, fun L hL => ?_⟩
            simp only [go_sem, ir64, E_spec_IsName_l1, R_spec_IsName_l1, ir64_k0, ir64_o0, ir64_r0, ghk1na, ghk1nb, ghk2na, ghk2nb, hk3]
          · try simp only [go_sem, n1, n2, n3, n4, ghk1na, ghk1nb, ghk2na, ghk2nb] at hk3
            all_goals
            obtain ⟨y_9, hk9, h⟩ := bd_some h
            obtain ⟨Lhk9, ehk9⟩ := spec_IsName_l1_ex hk9
            rcases y_9 with y_9a | y_9b
            · dsimp only at h
              obtain rfl := so_some h
              refine ⟨Lhk9, fun L hL => ?_⟩
              have ehk9 := ehk9 L (by omega)
              try simp only [go_sem, E_spec_IsName_l1, R_spec_IsName_l1, ir64_k0, ir64_o0, ir64_r0, ghk1na, ghk1nb, ghk2na, ghk2nb, hk3] at ehk9
              simp only [go_sem, ir64, E_spec_IsName_l1, R_spec_IsName_l1, ir64_k0, ir64_o0, ir64_r0, ghk1na, ghk1nb, ghk2na, ghk2nb, hk3, ehk9]
            · dsimp only at h
              obtain rfl := so_some h
              refine ⟨Lhk9, fun L hL => ?_⟩
              have ehk9 := ehk9 L (by omega)
              try simp only [go_sem, E_spec_IsName_l1, R_spec_IsName_l1, ir64_k0, ir64_o0, ir64_r0, ghk1na, ghk1nb, ghk2na, ghk2nb, hk3] at ehk9
              simp only [go_sem, ir64, E_spec_IsName_l1, R_spec_IsName_l1, ir64_k0, ir64_o0, ir64_r0, ghk1na, ghk1nb, ghk2na, ghk2nb, hk3, ehk9]


def ir65_v : List Nat := [0, 2]
def ir65 : AFn := ⟨1, 2, .seq (.region false [
    ⟨.var 1, 2, none, .mov (.c (.bool false))⟩])
 (.seq (.region false [
    ⟨.push, 3, none, .mov (.v 0)⟩,
    ⟨.push, 4, none, .call 77 [(.s 0), (.c (.int .i64 (-2000))), (.c (.int .i64 (20000)))]⟩,
    ⟨.var 1, 2, none, .mov (.s 0)⟩])
 (.ret)), [.t 1]⟩
noncomputable def t_spec_l02Mag : List (Nat × Ctr) := [(77, c_spec_l00In)]
theorem lk_spec_l02Mag_77 : look t_spec_l02Mag 77 = some c_spec_l00In := rfl
noncomputable def c_spec_l02Mag : Ctr := mkF t_spec_l02Mag ir65 [.bor]
theorem s_spec_l02Mag : Sound Try.prog 65 c_spec_l02Mag := mkF_sound _ rfl (snd_cons s_spec_l00In snd_nil) (by kernel_rfl : chkFn Try.prog 65 ir65 ir65_v = true)
theorem M_spec_l02Mag : c_spec_l02Mag.modes = [.bor] := rfl
theorem Fl_spec_l02Mag : c_spec_l02Mag.flat = true := rfl
attribute [go_sem] M_spec_l02Mag Fl_spec_l02Mag
attribute [go_sem] lk_spec_l02Mag_77
theorem Fs_spec_l02Mag {m : Int} {y_ : Bool} (h : spec_l02Mag m = some y_) : c_spec_l02Mag.F [.int .i64 m] = ⟨true, .bool y_, [.any]⟩ := by
  refine mkF_E rfl ?_
  dsimp only [spec_l02Mag] at h
  obtain ⟨y_1, hk1, h⟩ := bd_some h
  have fhk1 := Fs_spec_l00In hk1
  try simp only [go_sem] at fhk1
  obtain rfl := so_some h
  refine ⟨0, fun L hL => ?_⟩
  simp only [go_sem, ir65, fhk1]


def ir43_v : List Nat := [0, 2]
def ir43 : AFn := ⟨1, 2, .seq (.region false [
    ⟨.var 1, 2, none, .mov (.c (.bool false))⟩])
 (.seq (.region false [
    ⟨.push, 3, none, .mov (.v 0)⟩,
    ⟨.push, 4, none, .nilck (.s 0)⟩,
    ⟨.push, 5, none, .fldAddr 0 (.s 0)⟩,
    ⟨.push, 6, none, .load false 1 (.s 0)⟩,
    ⟨.push, 7, none, .call 63 [(.s 0)]⟩,
    ⟨.push, 8, none, .mov (.s 0)⟩,
    ⟨.push, 9, (some ((.s 0), true)), .mov (.v 0)⟩,
    ⟨.push, 10, (some ((.s 1), true)), .nilck (.s 0)⟩,
    ⟨.push, 11, (some ((.s 2), true)), .fldAddr 1 (.s 0)⟩,
    ⟨.push, 12, (some ((.s 3), true)), .load false 1 (.s 0)⟩,
    ⟨.push, 13, (some ((.s 4), true)), .call 64 [(.s 0)]⟩,
    ⟨.push, 14, none, .pick (.s 5) (.s 0) (.c (.bool false))⟩,
    ⟨.push, 15, none, .mov (.s 0)⟩,
    ⟨.push, 16, (some ((.s 0), true)), .mov (.v 0)⟩,
    ⟨.push, 17, (some ((.s 1), true)), .nilck (.s 0)⟩,
    ⟨.push, 18, (some ((.s 2), true)), .fldAddr 2 (.s 0)⟩,
    ⟨.push, 19, (some ((.s 3), true)), .load false 1 (.s 0)⟩,
    ⟨.push, 20, (some ((.s 4), true)), .call 64 [(.s 0)]⟩,
    ⟨.push, 21, none, .pick (.s 5) (.s 0) (.c (.bool false))⟩,
    ⟨.push, 22, none, .mov (.s 0)⟩,
    ⟨.push, 23, (some ((.s 0), true)), .mov (.v 0)⟩,
    ⟨.push, 24, (some ((.s 1), true)), .nilck (.s 0)⟩,
    ⟨.push, 25, (some ((.s 2), true)), .fldAddr 3 (.s 0)⟩,
    ⟨.push, 26, (some ((.s 3), true)), .load false 1 (.s 0)⟩,
    ⟨.push, 27, (some ((.s 4), true)), .call 65 [(.s 0)]⟩,
    ⟨.push, 28, none, .pick (.s 5) (.s 0) (.c (.bool false))⟩,
    ⟨.var 1, 2, none, .mov (.s 0)⟩])
 (.ret)), [.t 1]⟩
noncomputable def t_spec_l06One : List (Nat × Ctr) := [(63, c_spec_l06Time), (64, c_spec_IsName), (65, c_spec_l02Mag)]
theorem lk_spec_l06One_63 : look t_spec_l06One 63 = some c_spec_l06Time := rfl
theorem lk_spec_l06One_64 : look t_spec_l06One 64 = some c_spec_IsName := rfl
theorem lk_spec_l06One_65 : look t_spec_l06One 65 = some c_spec_l02Mag := rfl
noncomputable def c_spec_l06One : Ctr := mkF t_spec_l06One ir43 [.bor]
theorem s_spec_l06One : Sound Try.prog 43 c_spec_l06One := mkF_sound _ rfl (snd_cons s_spec_l06Time (snd_cons s_spec_IsName (snd_cons s_spec_l02Mag snd_nil))) (by kernel_rfl : chkFn Try.prog 43 ir43 ir43_v = true)
theorem M_spec_l06One : c_spec_l06One.modes = [.bor] := rfl
theorem Fl_spec_l06One : c_spec_l06One.flat = true := rfl
attribute [go_sem] M_spec_l06One Fl_spec_l06One
attribute [go_sem] lk_spec_l06One_63 lk_spec_l06One_64 lk_spec_l06One_65
theorem Fs_spec_l06One {e_ : Estimate} {y_ : Bool} (h : spec_l06One e_ = some y_) : c_spec_l06One.F [.ptr 5 [Estimate_av e_] 0 0] = ⟨true, .bool y_, [.any]⟩ := by
  refine mkF_E rfl ?_
  dsimp only [spec_l06One] at h
  obtain ⟨y_1, hk1, h⟩ := bd_some h
  have fhk1 := Fs_spec_l06Time hk1
  try simp only [go_sem] at fhk1
  obtain ⟨hk2, h⟩ := ck_some h
  rcases or_split hk2 with ⟨ghk2, hk2⟩ | ghk2
  · try simp only [go_sem, n1, n2, n3, n4] at ghk2
    all_goals
    obtain ⟨y_2, hhk2⟩ := Option.isSome_iff_exists.1 hk2
    have fhk2 := Fs_spec_IsName hhk2
    try simp only [go_sem, ghk2] at fhk2
    obtain ⟨hk3, h⟩ := ck_some h
    rcases or_split hk3 with ⟨ghk3, hk3⟩ | ghk3
    · try simp only [go_sem, n1, n2, n3, n4, ghk2, hhk2] at ghk3
      all_goals
      obtain ⟨y_3, hhk3⟩ := Option.isSome_iff_exists.1 hk3
      have fhk3 := Fs_spec_IsName hhk3
      try simp only [go_sem, ghk2, hhk2, ghk3] at fhk3
      obtain ⟨hk4, h⟩ := ck_some h
      rcases or_split hk4 with ⟨ghk4, hk4⟩ | ghk4
      · try simp only [go_sem, n1, n2, n3, n4, ghk2, hhk2, ghk3, hhk3] at ghk4
        all_goals
        obtain ⟨y_4, hhk4⟩ := Option.isSome_iff_exists.1 hk4
        have fhk4 := Fs_spec_l02Mag hhk4
        try simp only [go_sem, ghk2, hhk2, ghk3, hhk3, ghk4] at fhk4
        obtain rfl := so_some h
        refine ⟨0, fun L hL => ?_⟩
        simp only [go_sem, ir43, fhk1, ghk2, hhk2, fhk2, ghk3, hhk3, fhk3, ghk4, hhk4, fhk4]
      · rcases and_f ghk4 with ghk4a | ⟨ghk4a, ghk4b⟩
        · rcases and_f ghk4a with ghk4aa | ⟨ghk4aa, ghk4ab⟩
          · try simp only [go_sem, n1, n2, n3, n4, ghk2, hhk2, ghk3, hhk3] at ghk4aa
            all_goals
            obtain rfl := so_some h
            refine ⟨0, fun L hL => ?_⟩
            simp only [go_sem, ir43, fhk1, ghk2, hhk2, fhk2, ghk3, hhk3, fhk3, ghk4aa]
          · try simp only [go_sem, n1, n2, n3, n4, ghk2, hhk2, ghk3, hhk3] at ghk4aa
            all_goals
            try simp only [go_sem, n1, n2, n3, n4, ghk2, hhk2, ghk3, hhk3, ghk4aa] at ghk4ab
            all_goals
            obtain rfl := so_some h
            refine ⟨0, fun L hL => ?_⟩
            simp only [go_sem, ir43, fhk1, ghk2, hhk2, fhk2, ghk3, hhk3, fhk3, ghk4aa, ghk4ab]
        · obtain ⟨ghk4aa, ghk4ab⟩ := and_t ghk4a
          try simp only [go_sem, n1, n2, n3, n4, ghk2, hhk2, ghk3, hhk3] at ghk4aa
          all_goals
          try simp only [go_sem, n1, n2, n3, n4, ghk2, hhk2, ghk3, hhk3, ghk4aa] at ghk4ab
          all_goals
          try simp only [go_sem, n1, n2, n3, n4, ghk2, hhk2, ghk3, hhk3, ghk4aa, ghk4ab] at ghk4b
          all_goals
          obtain rfl := so_some h
          refine ⟨0, fun L hL => ?_⟩
          simp only [go_sem, ir43, fhk1, ghk2, hhk2, fhk2, ghk3, hhk3, fhk3, ghk4aa, ghk4ab, ghk4b]
    · rcases and_f ghk3 with ghk3a | ⟨ghk3a, ghk3b⟩
      · try simp only [go_sem, n1, n2, n3, n4, ghk2, hhk2] at ghk3a
        all_goals
        obtain ⟨hk4, h⟩ := ck_some h
        rcases or_split hk4 with ⟨ghk4, hk4⟩ | ghk4
        · try simp only [go_sem, n1, n2, n3, n4, ghk2, hhk2, ghk3a] at ghk4
          all_goals
          obtain ⟨y_4, hhk4⟩ := Option.isSome_iff_exists.1 hk4
          have fhk4 := Fs_spec_l02Mag hhk4
          try simp only [go_sem, ghk2, hhk2, ghk3a, ghk4] at fhk4
          obtain rfl := so_some h
          refine ⟨0, fun L hL => ?_⟩
          simp only [go_sem, ir43, fhk1, ghk2, hhk2, fhk2, ghk3a, ghk4, hhk4, fhk4]
        · rcases and_f ghk4 with ghk4a | ⟨ghk4a, ghk4b⟩
          · rcases and_f ghk4a with ghk4aa | ⟨ghk4aa, ghk4ab⟩
            · try simp only [go_sem, n1, n2, n3, n4, ghk2, hhk2, ghk3a] at ghk4aa
              all_goals
              obtain rfl := so_some h
              refine ⟨0, fun L hL => ?_⟩
              simp only [go_sem, ir43, fhk1, ghk2, hhk2, fhk2, ghk3a, ghk4aa]
            · try simp only [go_sem, n1, n2, n3, n4, ghk2, hhk2, ghk3a] at ghk4aa
              all_goals
              try simp only [go_sem, n1, n2, n3, n4, ghk2, hhk2, ghk3a, ghk4aa] at ghk4ab
              all_goals
              obtain rfl := so_some h
              refine ⟨0, fun L hL => ?_⟩
              simp only [go_sem, ir43, fhk1, ghk2, hhk2, fhk2, ghk3a, ghk4aa, ghk4ab]
          · obtain ⟨ghk4aa, ghk4ab⟩ := and_t ghk4a
            try simp only [go_sem, n1, n2, n3, n4, ghk2, hhk2, ghk3a] at ghk4aa
            all_goals
            try simp only [go_sem, n1, n2, n3, n4, ghk2, hhk2, ghk3a, ghk4aa] at ghk4ab
            all_goals
            try simp only [go_sem, n1, n2, n3, n4, ghk2, hhk2, ghk3a, ghk4aa, ghk4ab] at ghk4b
            all_goals
            obtain rfl := so_some h
            refine ⟨0, fun L hL => ?_⟩
            simp only [go_sem, ir43, fhk1, ghk2, hhk2, fhk2, ghk3a, ghk4aa, ghk4ab, ghk4b]
      · try simp only [go_sem, n1, n2, n3, n4, ghk2, hhk2] at ghk3a
        all_goals
        try simp only [go_sem, n1, n2, n3, n4, ghk2, hhk2, ghk3a] at ghk3b
        all_goals
        obtain ⟨hk4, h⟩ := ck_some h
        rcases or_split hk4 with ⟨ghk4, hk4⟩ | ghk4
        · try simp only [go_sem, n1, n2, n3, n4, ghk2, hhk2, ghk3a, ghk3b] at ghk4
          all_goals
          obtain ⟨y_4, hhk4⟩ := Option.isSome_iff_exists.1 hk4
          have fhk4 := Fs_spec_l02Mag hhk4
          try simp only [go_sem, ghk2, hhk2, ghk3a, ghk3b, ghk4] at fhk4
          obtain rfl := so_some h
          refine ⟨0, fun L hL => ?_⟩
          simp only [go_sem, ir43, fhk1, ghk2, hhk2, fhk2, ghk3a, ghk3b, ghk4, hhk4, fhk4]
        · rcases and_f ghk4 with ghk4a | ⟨ghk4a, ghk4b⟩
          · rcases and_f ghk4a with ghk4aa | ⟨ghk4aa, ghk4ab⟩
            · try simp only [go_sem, n1, n2, n3, n4, ghk2, hhk2, ghk3a, ghk3b] at ghk4aa
              all_goals
              obtain rfl := so_some h
              refine ⟨0, fun L hL => ?_⟩
              simp only [go_sem, ir43, fhk1, ghk2, hhk2, fhk2, ghk3a, ghk3b, ghk4aa]
            · try simp only [go_sem, n1, n2, n3, n4, ghk2, hhk2, ghk3a, ghk3b] at ghk4aa
              all_goals
              try simp only [go_sem, n1, n2, n3, n4, ghk2, hhk2, ghk3a, ghk3b, ghk4aa] at ghk4ab
              all_goals
              obtain rfl := so_some h
              refine ⟨0, fun L hL => ?_⟩
              simp only [go_sem, ir43, fhk1, ghk2, hhk2, fhk2, ghk3a, ghk3b, ghk4aa, ghk4ab]
          · obtain ⟨ghk4aa, ghk4ab⟩ := and_t ghk4a
            try simp only [go_sem, n1, n2, n3, n4, ghk2, hhk2, ghk3a, ghk3b] at ghk4aa
            all_goals
            try simp only [go_sem, n1, n2, n3, n4, ghk2, hhk2, ghk3a, ghk3b, ghk4aa] at ghk4ab
            all_goals
            try simp only [go_sem, n1, n2, n3, n4, ghk2, hhk2, ghk3a, ghk3b, ghk4aa, ghk4ab] at ghk4b
            all_goals
            obtain rfl := so_some h
            refine ⟨0, fun L hL => ?_⟩
            simp only [go_sem, ir43, fhk1, ghk2, hhk2, fhk2, ghk3a, ghk3b, ghk4aa, ghk4ab, ghk4b]
  · try simp only [go_sem, n1, n2, n3, n4] at ghk2
    all_goals
    obtain ⟨hk3, h⟩ := ck_some h
    rcases or_split hk3 with ⟨ghk3, hk3⟩ | ghk3
    · try simp only [go_sem, n1, n2, n3, n4, ghk2] at ghk3
      all_goals
      obtain ⟨y_3, hhk3⟩ := Option.isSome_iff_exists.1 hk3
      have fhk3 := Fs_spec_IsName hhk3
      try simp only [go_sem, ghk2, ghk3] at fhk3
      obtain ⟨hk4, h⟩ := ck_some h
      rcases or_split hk4 with ⟨ghk4, hk4⟩ | ghk4
      · try simp only [go_sem, n1, n2, n3, n4, ghk2, ghk3, hhk3] at ghk4
        all_goals
        obtain ⟨y_4, hhk4⟩ := Option.isSome_iff_exists.1 hk4
        have fhk4 := Fs_spec_l02Mag hhk4
        try simp only [go_sem, ghk2, ghk3, hhk3, ghk4] at fhk4
        obtain rfl := so_some h
        refine ⟨0, fun L hL => ?_⟩
        simp only [go_sem, ir43, fhk1, ghk2, ghk3, hhk3, fhk3, ghk4, hhk4, fhk4]
      · rcases and_f ghk4 with ghk4a | ⟨ghk4a, ghk4b⟩
        · rcases and_f ghk4a with ghk4aa | ⟨ghk4aa, ghk4ab⟩
          · try simp only [go_sem, n1, n2, n3, n4, ghk2, ghk3, hhk3] at ghk4aa
            all_goals
            obtain rfl := so_some h
            refine ⟨0, fun L hL => ?_⟩
            simp only [go_sem, ir43, fhk1, ghk2, ghk3, hhk3, fhk3, ghk4aa]
          · try simp only [go_sem, n1, n2, n3, n4, ghk2, ghk3, hhk3] at ghk4aa
            all_goals
            try simp only [go_sem, n1, n2, n3, n4, ghk2, ghk3, hhk3, ghk4aa] at ghk4ab
            all_goals
            obtain rfl := so_some h
            refine ⟨0, fun L hL => ?_⟩
            simp only [go_sem, ir43, fhk1, ghk2, ghk3, hhk3, fhk3, ghk4aa, ghk4ab]
        · obtain ⟨ghk4aa, ghk4ab⟩ := and_t ghk4a
          try simp only [go_sem, n1, n2, n3, n4, ghk2, ghk3, hhk3] at ghk4aa
          all_goals
          try simp only [go_sem, n1, n2, n3, n4, ghk2, ghk3, hhk3, ghk4aa] at ghk4ab
          all_goals
          try simp only [go_sem, n1, n2, n3, n4, ghk2, ghk3, hhk3, ghk4aa, ghk4ab] at ghk4b
          all_goals
          obtain rfl := so_some h
          refine ⟨0, fun L hL => ?_⟩
          simp only [go_sem, ir43, fhk1, ghk2, ghk3, hhk3, fhk3, ghk4aa, ghk4ab, ghk4b]
    · rcases and_f ghk3 with ghk3a | ⟨ghk3a, ghk3b⟩
      · try simp only [go_sem, n1, n2, n3, n4, ghk2] at ghk3a
        all_goals
        obtain ⟨hk4, h⟩ := ck_some h
        rcases or_split hk4 with ⟨ghk4, hk4⟩ | ghk4
        · try simp only [go_sem, n1, n2, n3, n4, ghk2, ghk3a] at ghk4
          all_goals
          obtain ⟨y_4, hhk4⟩ := Option.isSome_iff_exists.1 hk4
          have fhk4 := Fs_spec_l02Mag hhk4
          try simp only [go_sem, ghk2, ghk3a, ghk4] at fhk4
          obtain rfl := so_some h
          refine ⟨0, fun L hL => ?_⟩
          simp only [go_sem, ir43, fhk1, ghk2, ghk3a, ghk4, hhk4, fhk4]
        · rcases and_f ghk4 with ghk4a | ⟨ghk4a, ghk4b⟩
          · rcases and_f ghk4a with ghk4aa | ⟨ghk4aa, ghk4ab⟩
            · try simp only [go_sem, n1, n2, n3, n4, ghk2, ghk3a] at ghk4aa
              all_goals
              obtain rfl := so_some h
              refine ⟨0, fun L hL => ?_⟩
              simp only [go_sem, ir43, fhk1, ghk2, ghk3a, ghk4aa]
            · try simp only [go_sem, n1, n2, n3, n4, ghk2, ghk3a] at ghk4aa
              all_goals
              try simp only [go_sem, n1, n2, n3, n4, ghk2, ghk3a, ghk4aa] at ghk4ab
              all_goals
              obtain rfl := so_some h
              refine ⟨0, fun L hL => ?_⟩
              simp only [go_sem, ir43, fhk1, ghk2, ghk3a, ghk4aa, ghk4ab]
          · obtain ⟨ghk4aa, ghk4ab⟩ := and_t ghk4a
            try simp only [go_sem, n1, n2, n3, n4, ghk2, ghk3a] at ghk4aa
            all_goals
            try simp only [go_sem, n1, n2, n3, n4, ghk2, ghk3a, ghk4aa] at ghk4ab
            all_goals
            try simp only [go_sem, n1, n2, n3, n4, ghk2, ghk3a, ghk4aa, ghk4ab] at ghk4b
            all_goals
            obtain rfl := so_some h
            refine ⟨0, fun L hL => ?_⟩
            simp only [go_sem, ir43, fhk1, ghk2, ghk3a, ghk4aa, ghk4ab, ghk4b]
      · try simp only [go_sem, n1, n2, n3, n4, ghk2] at ghk3a
        all_goals
        try simp only [go_sem, n1, n2, n3, n4, ghk2, ghk3a] at ghk3b
        all_goals
        obtain ⟨hk4, h⟩ := ck_some h
        rcases or_split hk4 with ⟨ghk4, hk4⟩ | ghk4
        · try simp only [go_sem, n1, n2, n3, n4, ghk2, ghk3a, ghk3b] at ghk4
          all_goals
          obtain ⟨y_4, hhk4⟩ := Option.isSome_iff_exists.1 hk4
          have fhk4 := Fs_spec_l02Mag hhk4
          try simp only [go_sem, ghk2, ghk3a, ghk3b, ghk4] at fhk4
          obtain rfl := so_some h
          refine ⟨0, fun L hL => ?_⟩
          simp only [go_sem, ir43, fhk1, ghk2, ghk3a, ghk3b, ghk4, hhk4, fhk4]
        · rcases and_f ghk4 with ghk4a | ⟨ghk4a, ghk4b⟩
          · rcases and_f ghk4a with ghk4aa | ⟨ghk4aa, ghk4ab⟩
            · try simp only [go_sem, n1, n2, n3, n4, ghk2, ghk3a, ghk3b] at ghk4aa
              all_goals
              obtain rfl := so_some h
              refine ⟨0, fun L hL => ?_⟩
              simp only [go_sem, ir43, fhk1, ghk2, ghk3a, ghk3b, ghk4aa]
            · try simp only [go_sem, n1, n2, n3, n4, ghk2, ghk3a, ghk3b] at ghk4aa
              all_goals
              try simp only [go_sem, n1, n2, n3, n4, ghk2, ghk3a, ghk3b, ghk4aa] at ghk4ab
              all_goals
              obtain rfl := so_some h
              refine ⟨0, fun L hL => ?_⟩
              simp only [go_sem, ir43, fhk1, ghk2, ghk3a, ghk3b, ghk4aa, ghk4ab]
          · obtain ⟨ghk4aa, ghk4ab⟩ := and_t ghk4a
            try simp only [go_sem, n1, n2, n3, n4, ghk2, ghk3a, ghk3b] at ghk4aa
            all_goals
            try simp only [go_sem, n1, n2, n3, n4, ghk2, ghk3a, ghk3b, ghk4aa] at ghk4ab
            all_goals
            try simp only [go_sem, n1, n2, n3, n4, ghk2, ghk3a, ghk3b, ghk4aa, ghk4ab] at ghk4b
            all_goals
            obtain rfl := so_some h
            refine ⟨0, fun L hL => ?_⟩
            simp only [go_sem, ir43, fhk1, ghk2, ghk3a, ghk3b, ghk4aa, ghk4ab, ghk4b]


def ir44_v : List Nat := [0, 1, 4]
def ir44 : AFn := ⟨2, 3, .seq (.region false [
    ⟨.var 2, 4, none, .mov (.c (.bool false))⟩])
 (.seq (.anyo 9 [
    ⟨.slot 0, 5, none, .mov (.v 0)⟩,
    ⟨.slot 1, 6, none, .nilck (.s 0)⟩,
    ⟨.slot 2, 7, none, .fldAddr 0 (.s 1)⟩,
    ⟨.slot 3, 8, none, .load false 1 (.s 2)⟩,
    ⟨.slot 4, 9, none, .mov (.v 1)⟩,
    ⟨.slot 5, 10, none, .nilck (.s 4)⟩,
    ⟨.slot 6, 11, none, .fldAddr 0 (.s 5)⟩,
    ⟨.slot 7, 12, none, .load false 1 (.s 6)⟩,
    ⟨.slot 8, 13, none, .bin false .neq (.s 3) (.s 7)⟩] [] (.cond (.s 8)
  (.seq (.anyo 9 [
      ⟨.slot 0, 14, none, .mov (.v 0)⟩,
      ⟨.slot 1, 15, none, .nilck (.s 0)⟩,
      ⟨.slot 2, 16, none, .fldAddr 0 (.s 1)⟩,
      ⟨.slot 3, 17, none, .load false 1 (.s 2)⟩,
      ⟨.slot 4, 18, none, .mov (.v 1)⟩,
      ⟨.slot 5, 19, none, .nilck (.s 4)⟩,
      ⟨.slot 6, 20, none, .fldAddr 0 (.s 5)⟩,
      ⟨.slot 7, 21, none, .load false 1 (.s 6)⟩,
      ⟨.slot 8, 22, none, .bin false .lss (.s 3) (.s 7)⟩,
      ⟨.var 2, 4, none, .mov (.s 8)⟩] [] .skip)
   (.ret))
  (.skip)))
 (.seq (.anyo 9 [
    ⟨.slot 0, 23, none, .mov (.v 0)⟩,
    ⟨.slot 1, 24, none, .nilck (.s 0)⟩,
    ⟨.slot 2, 25, none, .fldAddr 1 (.s 1)⟩,
    ⟨.slot 3, 26, none, .load false 1 (.s 2)⟩,
    ⟨.slot 4, 27, none, .mov (.v 1)⟩,
    ⟨.slot 5, 28, none, .nilck (.s 4)⟩,
    ⟨.slot 6, 29, none, .fldAddr 1 (.s 5)⟩,
    ⟨.slot 7, 30, none, .load false 1 (.s 6)⟩,
    ⟨.slot 8, 31, none, .bin false .neq (.s 3) (.s 7)⟩] [] (.cond (.s 8)
  (.seq (.anyo 9 [
      ⟨.slot 0, 32, none, .mov (.v 0)⟩,
      ⟨.slot 1, 33, none, .nilck (.s 0)⟩,
      ⟨.slot 2, 34, none, .fldAddr 1 (.s 1)⟩,
      ⟨.slot 3, 35, none, .load false 1 (.s 2)⟩,
      ⟨.slot 4, 36, none, .mov (.v 1)⟩,
      ⟨.slot 5, 37, none, .nilck (.s 4)⟩,
      ⟨.slot 6, 38, none, .fldAddr 1 (.s 5)⟩,
      ⟨.slot 7, 39, none, .load false 1 (.s 6)⟩,
      ⟨.slot 8, 40, none, .bin false .lss (.s 3) (.s 7)⟩,
      ⟨.var 2, 4, none, .mov (.s 8)⟩] [] .skip)
   (.ret))
  (.skip)))
 (.seq (.anyo 9 [
    ⟨.slot 0, 41, none, .mov (.v 0)⟩,
    ⟨.slot 1, 42, none, .nilck (.s 0)⟩,
    ⟨.slot 2, 43, none, .fldAddr 2 (.s 1)⟩,
    ⟨.slot 3, 44, none, .load false 1 (.s 2)⟩,
    ⟨.slot 4, 45, none, .mov (.v 1)⟩,
    ⟨.slot 5, 46, none, .nilck (.s 4)⟩,
    ⟨.slot 6, 47, none, .fldAddr 2 (.s 5)⟩,
    ⟨.slot 7, 48, none, .load false 1 (.s 6)⟩,
    ⟨.slot 8, 49, none, .bin false .lss (.s 3) (.s 7)⟩,
    ⟨.var 2, 4, none, .mov (.s 8)⟩] [] .skip)
 (.ret)))), [.t 2]⟩
noncomputable def t_spec_l06Before : List (Nat × Ctr) := []
noncomputable def c_spec_l06Before : Ctr := mkF t_spec_l06Before ir44 [.bor, .bor]
theorem s_spec_l06Before : Sound Try.prog 44 c_spec_l06Before := mkF_sound _ rfl snd_nil (by kernel_rfl : chkFn Try.prog 44 ir44 ir44_v = true)
theorem M_spec_l06Before : c_spec_l06Before.modes = [.bor, .bor] := rfl
theorem Fl_spec_l06Before : c_spec_l06Before.flat = true := rfl
attribute [go_sem] M_spec_l06Before Fl_spec_l06Before
theorem Fs_spec_l06Before {a : Estimate} {b : Estimate} {y_ : Bool} (h : spec_l06Before a b = some y_) : c_spec_l06Before.F [.ptr 5 [Estimate_av a] 0 0, .ptr 5 [Estimate_av b] 0 0] = ⟨true, .bool y_, [.any, .any]⟩ := by
  refine mkF_E rfl ?_
  dsimp only [spec_l06Before] at h
  rcases it_some h with ⟨hk1, h⟩ | ⟨hk1, h⟩
  · try simp only [go_sem, n1, n2, n3, n4] at hk1
    all_goals
    obtain rfl := so_some h
    refine ⟨0, fun L hL => ?_⟩
    simp only [go_sem, ir44, hk1]
  · try simp only [go_sem, n1, n2, n3, n4] at hk1
    all_goals
    rcases it_some h with ⟨hk2, h⟩ | ⟨hk2, h⟩
    · try simp only [go_sem, n1, n2, n3, n4, hk1] at hk2
      all_goals
      obtain rfl := so_some h
      refine ⟨0, fun L hL => ?_⟩
      simp only [go_sem, ir44, hk1, hk2]
    · try simp only [go_sem, n1, n2, n3, n4, hk1] at hk2
      all_goals
      obtain rfl := so_some h
      refine ⟨0, fun L hL => ?_⟩
      simp only [go_sem, ir44, hk1, hk2]


def ir19_b0 : IR := .seq (.test false [
    ⟨.push, 4, none, .mov (.v 2)⟩,
    ⟨.push, 5, none, .mov (.v 0)⟩,
    ⟨.push, 6, none, .len false (.s 0)⟩,
    ⟨.push, 7, none, .bin false .lss (.s 2) (.s 0)⟩] (.s 0)
  (.skip)
  (.exit 0))
 (.seq (.block 1 (.anyo 20 [
     ⟨.slot 0, 10, none, .mov (.v 0)⟩,
     ⟨.slot 1, 11, none, .mov (.v 2)⟩,
     ⟨.slot 2, 12, none, .ixAddr 5 (.s 0) (.s 1)⟩,
     ⟨.slot 3, 13, none, .callp 43 [(.s 2)]⟩,
     ⟨.slot 4, 14, none, .un .not (.s 3)⟩,
     ⟨.slot 5, 15, none, .mov (.s 4)⟩,
     ⟨.slot 6, 16, (some ((.s 5), false)), .mov (.v 2)⟩,
     ⟨.slot 7, 17, (some ((.s 5), false)), .bin false .gtr (.s 6) (.c (.int .i64 (0)))⟩,
     ⟨.slot 8, 18, (some ((.s 5), false)), .mov (.s 7)⟩,
     ⟨.slot 9, 19, (some ((.s 8), true)), .mov (.v 0)⟩,
     ⟨.slot 10, 20, (some ((.s 8), true)), .mov (.v 2)⟩,
     ⟨.slot 11, 21, (some ((.s 8), true)), .bin false .sub (.s 10) (.c (.int .i64 (1)))⟩,
     ⟨.slot 12, 22, (some ((.s 8), true)), .ixAddr 5 (.s 9) (.s 11)⟩,
     ⟨.slot 13, 23, (some ((.s 8), true)), .mov (.v 0)⟩,
     ⟨.slot 14, 24, (some ((.s 8), true)), .mov (.v 2)⟩,
     ⟨.slot 15, 25, (some ((.s 8), true)), .ixAddr 5 (.s 13) (.s 14)⟩,
     ⟨.slot 16, 26, (some ((.s 8), true)), .call 44 [(.s 12), (.s 15)]⟩,
     ⟨.slot 17, 27, (some ((.s 8), true)), .un .not (.s 16)⟩,
     ⟨.slot 18, 28, (some ((.s 5), false)), .pick (.s 8) (.s 17) (.c (.bool false))⟩,
     ⟨.slot 19, 29, none, .pick (.s 5) (.c (.bool true)) (.s 18)⟩] [] (.cond (.s 19)
   (.seq (.region false [
       ⟨.var 1, 2, none, .mov (.c (.bool false))⟩])
    (.ret))
   (.skip))))
 (.region false [
   ⟨.push, 8, none, .mov (.v 2)⟩,
   ⟨.push, 9, none, .bin false .add (.s 0) (.c (.int .i64 (1)))⟩,
   ⟨.var 2, 3, none, .mov (.s 0)⟩]))
def ir19_k0 : List Bool := [true, false, true]
def ir19_o0 : List Bool := [true, false, false]
def ir19_r0 : List Bool := [false, true, false]
def ir19_v : List Nat := [0, 2, 3]
def ir19 : AFn := ⟨1, 3, .seq (.region false [
    ⟨.var 1, 2, none, .mov (.c (.bool false))⟩])
 (.seq (.seq (.region false [
     ⟨.var 2, 3, none, .mov (.c (.int .i64 (0)))⟩])
  (.block 0 (.loop ir19_k0 ir19_o0 ir19_r0 ir19_b0)))
 (.seq (.region false [
    ⟨.push, 30, none, .mov (.v 0)⟩,
    ⟨.push, 31, none, .len false (.s 0)⟩,
    ⟨.push, 32, none, .bin false .leq (.s 0) (.c (.int .i64 (100)))⟩,
    ⟨.var 1, 2, none, .mov (.s 0)⟩])
 (.ret))), [.t 1]⟩
noncomputable def t_spec_l06Ok : List (Nat × Ctr) := [(43, c_spec_l06One), (44, c_spec_l06Before)]
theorem lk_spec_l06Ok_43 : look t_spec_l06Ok 43 = some c_spec_l06One := rfl
theorem lk_spec_l06Ok_44 : look t_spec_l06Ok 44 = some c_spec_l06Before := rfl
noncomputable def c_spec_l06Ok : Ctr := mkF t_spec_l06Ok ir19 [.bor]
theorem s_spec_l06Ok : Sound Try.prog 19 c_spec_l06Ok := mkF_sound _ rfl (snd_cons s_spec_l06One (snd_cons s_spec_l06Before snd_nil)) (by kernel_rfl : chkFn Try.prog 19 ir19 ir19_v = true)
theorem M_spec_l06Ok : c_spec_l06Ok.modes = [.bor] := rfl
theorem Fl_spec_l06Ok : c_spec_l06Ok.flat = true := rfl
attribute [go_sem] M_spec_l06Ok Fl_spec_l06Ok
attribute [go_sem] lk_spec_l06Ok_43 lk_spec_l06Ok_44
def E_spec_l06Ok_l1 (list : List Estimate) : Int → St
  | i => ⟨[.sl 5 (List.map Estimate_av list), .any, .int .i64 i], [], [], true⟩
def R_spec_l06Ok_l1 (list : List Estimate) : (Unit ⊕ Bool) → Res
  | .inl y => (.exit 0, ⟨[.sl 5 (List.map Estimate_av list), .any, .any], [], [], true⟩)
  | .inr y => (.ret, ⟨[.any, .bool y, .any], [], [], true⟩)
theorem spec_l06Ok_l1_ex {list : List Estimate} {sgm_ : Int} {rho_ : Unit ⊕ Bool} (h : whileE (spec_l06Ok_l1 list) sgm_ = some rho_) : ∃ L0, ∀ L, L0 ≤ L → iter (exec (look t_spec_l06Ok) L ir19_b0) ir19_k0 ir19_o0 ir19_r0 L (E_spec_l06Ok_l1 list sgm_) = R_spec_l06Ok_l1 list rho_ := by
  refine loop_ex (E := E_spec_l06Ok_l1 list) (R := R_spec_l06Ok_l1 list) (fun y => by first | (intro c; cases c) | (rcases y with y | y <;> (intro c; cases c)) | (rcases y with y | y | y <;> (intro c; cases c))) ?_ h
  clear h
  intro i o_ h
  dsimp only [spec_l06Ok_l1] at h
  rcases it_some h with ⟨hk1, h⟩ | ⟨hk1, h⟩
  · try simp only [go_sem, n1, n2, n3, n4] at hk1
    all_goals
    obtain ⟨hk2, h⟩ := ck_some h
    have lhk2 := ix_lt hk2
    have xhk2 := getD_mapD Estimate_av list lhk2
    try simp only [go_sem] at lhk2
    try simp only [go_sem] at xhk2
    try simp only [go_sem, n1, n2, n3, n4, hk1] at hk2
    all_goals
    obtain ⟨y_3, hk3, h⟩ := bd_some h
    have fhk3 := Fs_spec_l06One hk3
    try simp only [go_sem, hk1, hk2] at fhk3
    obtain ⟨hk4, h⟩ := ck_some h
    rcases or_split hk4 with ⟨ghk4, hk4⟩ | ghk4
    · try simp only [go_sem, n1, n2, n3, n4, hk1, hk2] at ghk4
      all_goals
      have lhk4 := ix_lt hk4
      have xhk4 := getD_mapD Estimate_av list lhk4
      try simp only [go_sem] at lhk4
      try simp only [go_sem] at xhk4
      try simp only [go_sem, n1, n2, n3, n4, hk1, hk2, ghk4] at hk4
      all_goals
      obtain ⟨hk5, h⟩ := ck_some h
      rcases or_split hk5 with ⟨ghk5, hk5⟩ | ghk5
      · try simp only [go_sem, n1, n2, n3, n4, hk1, hk2, ghk4, hk4] at ghk5
        all_goals
        obtain ⟨y_5, hhk5⟩ := Option.isSome_iff_exists.1 hk5
        have fhk5 := Fs_spec_l06Before hhk5
        try simp only [go_sem, hk1, hk2, ghk4, hk4, ghk5] at fhk5
        rcases it_some h with ⟨hk6, h⟩ | ⟨hk6, h⟩
        · try simp only [go_sem, n1, n2, n3, n4, hk1, hk2, ghk4, hk4, ghk5, hhk5] at hk6
          all_goals
          obtain rfl := so_some h
          refine ⟨0, fun L hL => ?_⟩
          simp only [go_sem, ir19, E_spec_l06Ok_l1, R_spec_l06Ok_l1, ir19_b0, ir19_k0, ir19_o0, ir19_r0, hk1, hk2, lhk2, xhk2, fhk3, ghk4, hk4, lhk4, xhk4, ghk5, hhk5, fhk5, hk6]
        · try simp only [go_sem, n1, n2, n3, n4, hk1, hk2, ghk4, hk4, ghk5, hhk5] at hk6
          all_goals
          obtain rfl := so_some h
          refine ⟨0, fun L hL => ?_⟩
          simp only [go_sem, ir19, E_spec_l06Ok_l1, R_spec_l06Ok_l1, ir19_b0, ir19_k0, ir19_o0, ir19_r0, hk1, hk2, lhk2, xhk2, fhk3, ghk4, hk4, lhk4, xhk4, ghk5, hhk5, fhk5, hk6]
      · rcases and_f ghk5 with ghk5a | ⟨ghk5a, ghk5b⟩
        · have ghk5an := no_f ghk5a
          have ghk5ann := no_t ghk5an
          try simp only [go_sem, n1, n2, n3, n4, hk1, hk2, ghk4, hk4] at ghk5ann
          all_goals
          rcases it_some h with ⟨hk6, h⟩ | ⟨hk6, h⟩
          · try simp only [go_sem, n1, n2, n3, n4, hk1, hk2, ghk4, hk4, ghk5ann] at hk6
            all_goals
            obtain rfl := so_some h
            refine ⟨0, fun L hL => ?_⟩
            simp only [go_sem, ir19, E_spec_l06Ok_l1, R_spec_l06Ok_l1, ir19_b0, ir19_k0, ir19_o0, ir19_r0, hk1, hk2, lhk2, xhk2, fhk3, ghk4, hk4, lhk4, xhk4, ghk5ann, hk6]
          · try simp only [go_sem, n1, n2, n3, n4, hk1, hk2, ghk4, hk4, ghk5ann] at hk6
            all_goals
            obtain rfl := so_some h
            refine ⟨0, fun L hL => ?_⟩
            simp only [go_sem, ir19, E_spec_l06Ok_l1, R_spec_l06Ok_l1, ir19_b0, ir19_k0, ir19_o0, ir19_r0, hk1, hk2, lhk2, xhk2, fhk3, ghk4, hk4, lhk4, xhk4, ghk5ann, hk6]
        · have ghk5an := no_t ghk5a
          have ghk5ann := no_f ghk5an
          try simp only [go_sem, n1, n2, n3, n4, hk1, hk2, ghk4, hk4] at ghk5ann
          all_goals
          try simp only [go_sem, n1, n2, n3, n4, hk1, hk2, ghk4, hk4, ghk5ann] at ghk5b
          all_goals
          rcases it_some h with ⟨hk6, h⟩ | ⟨hk6, h⟩
          · try simp only [go_sem, n1, n2, n3, n4, hk1, hk2, ghk4, hk4, ghk5ann, ghk5b] at hk6
            all_goals
            obtain rfl := so_some h
            refine ⟨0, fun L hL => ?_⟩
            simp only [go_sem, ir19, E_spec_l06Ok_l1, R_spec_l06Ok_l1, ir19_b0, ir19_k0, ir19_o0, ir19_r0, hk1, hk2, lhk2, xhk2, fhk3, ghk4, hk4, lhk4, xhk4, ghk5ann, ghk5b, hk6]
          · try simp only [go_sem, n1, n2, n3, n4, hk1, hk2, ghk4, hk4, ghk5ann, ghk5b] at hk6
            all_goals
            obtain rfl := so_some h
            refine ⟨0, fun L hL => ?_⟩
            simp only [go_sem, ir19, E_spec_l06Ok_l1, R_spec_l06Ok_l1, ir19_b0, ir19_k0, ir19_o0, ir19_r0, hk1, hk2, lhk2, xhk2, fhk3, ghk4, hk4, lhk4, xhk4, ghk5ann, ghk5b, hk6]
    · rcases and_f ghk4 with ghk4a | ⟨ghk4a, ghk4b⟩
      · have ghk4an := no_f ghk4a
        have ghk4ann := no_t ghk4an
        try simp only [go_sem, n1, n2, n3, n4, hk1, hk2] at ghk4ann
        all_goals
        obtain ⟨hk5, h⟩ := ck_some h
        rcases or_split hk5 with ⟨ghk5, hk5⟩ | ghk5
        · try simp only [go_sem, n1, n2, n3, n4, hk1, hk2, ghk4ann] at ghk5
          all_goals
          obtain ⟨y_5, hhk5⟩ := Option.isSome_iff_exists.1 hk5
          have fhk5 := Fs_spec_l06Before hhk5
          try simp only [go_sem, hk1, hk2, ghk4ann, ghk5] at fhk5
          rcases it_some h with ⟨hk6, h⟩ | ⟨hk6, h⟩
          · try simp only [go_sem, n1, n2, n3, n4, hk1, hk2, ghk4ann, ghk5, hhk5] at hk6
            all_goals
            obtain rfl := so_some h
            refine ⟨0, fun L hL => ?_⟩
            simp only [go_sem, ir19, E_spec_l06Ok_l1, R_spec_l06Ok_l1, ir19_b0, ir19_k0, ir19_o0, ir19_r0, hk1, hk2, lhk2, xhk2, fhk3, ghk4ann, ghk5, hhk5, fhk5, hk6]
          · try simp only [go_sem, n1, n2, n3, n4, hk1, hk2, ghk4ann, ghk5, hhk5] at hk6
            all_goals
            obtain rfl := so_some h
            refine ⟨0, fun L hL => ?_⟩
            simp only [go_sem, ir19, E_spec_l06Ok_l1, R_spec_l06Ok_l1, ir19_b0, ir19_k0, ir19_o0, ir19_r0, hk1, hk2, lhk2, xhk2, fhk3, ghk4ann, ghk5, hhk5, fhk5, hk6]
        · rcases and_f ghk5 with ghk5a | ⟨ghk5a, ghk5b⟩
          · have ghk5an := no_f ghk5a
            have ghk5ann := no_t ghk5an
            try simp only [go_sem, n1, n2, n3, n4, hk1, hk2, ghk4ann] at ghk5ann
            all_goals
            rcases it_some h with ⟨hk6, h⟩ | ⟨hk6, h⟩
            · try simp only [go_sem, n1, n2, n3, n4, hk1, hk2, ghk4ann, ghk5ann] at hk6
              all_goals
              obtain rfl := so_some h
              refine ⟨0, fun L hL => ?_⟩
              simp only [go_sem, ir19, E_spec_l06Ok_l1, R_spec_l06Ok_l1, ir19_b0, ir19_k0, ir19_o0, ir19_r0, hk1, hk2, lhk2, xhk2, fhk3, ghk4ann, ghk5ann, hk6]
            · try simp only [go_sem, n1, n2, n3, n4, hk1, hk2, ghk4ann, ghk5ann] at hk6
              all_goals
              obtain rfl := so_some h
              refine ⟨0, fun L hL => ?_⟩
              simp only [go_sem, ir19, E_spec_l06Ok_l1, R_spec_l06Ok_l1, ir19_b0, ir19_k0, ir19_o0, ir19_r0, hk1, hk2, lhk2, xhk2, fhk3, ghk4ann, ghk5ann, hk6]
          · have ghk5an := no_t ghk5a
            have ghk5ann := no_f ghk5an
            try simp only [go_sem, n1, n2, n3, n4, hk1, hk2, ghk4ann] at ghk5ann
            all_goals
            try simp only [go_sem, n1, n2, n3, n4, hk1, hk2, ghk4ann, ghk5ann] at ghk5b
            all_goals
            rcases it_some h with ⟨hk6, h⟩ | ⟨hk6, h⟩
            · try simp only [go_sem, n1, n2, n3, n4, hk1, hk2, ghk4ann, ghk5ann, ghk5b] at hk6
              all_goals
              obtain rfl := so_some h
              refine ⟨0, fun L hL => ?_⟩
              simp only [go_sem, ir19, E_spec_l06Ok_l1, R_spec_l06Ok_l1, ir19_b0, ir19_k0, ir19_o0, ir19_r0, hk1, hk2, lhk2, xhk2, fhk3, ghk4ann, ghk5ann, ghk5b, hk6]
            · try simp only [go_sem, n1, n2, n3, n4, hk1, hk2, ghk4ann, ghk5ann, ghk5b] at hk6
              all_goals
              obtain rfl := so_some h
              refine ⟨0, fun L hL => ?_⟩
              simp only [go_sem, ir19, E_spec_l06Ok_l1, R_spec_l06Ok_l1, ir19_b0, ir19_k0, ir19_o0, ir19_r0, hk1, hk2, lhk2, xhk2, fhk3, ghk4ann, ghk5ann, ghk5b, hk6]
      · have ghk4an := no_t ghk4a
        have ghk4ann := no_f ghk4an
        try simp only [go_sem, n1, n2, n3, n4, hk1, hk2] at ghk4ann
        all_goals
        try simp only [go_sem, n1, n2, n3, n4, hk1, hk2, ghk4ann] at ghk4b
        all_goals
        obtain ⟨hk5, h⟩ := ck_some h
        rcases or_split hk5 with ⟨ghk5, hk5⟩ | ghk5
        · try simp only [go_sem, n1, n2, n3, n4, hk1, hk2, ghk4ann, ghk4b] at ghk5
          all_goals
          obtain ⟨y_5, hhk5⟩ := Option.isSome_iff_exists.1 hk5
          have fhk5 := Fs_spec_l06Before hhk5
          try simp only [go_sem, hk1, hk2, ghk4ann, ghk4b, ghk5] at fhk5
          rcases it_some h with ⟨hk6, h⟩ | ⟨hk6, h⟩
          · try simp only [go_sem, n1, n2, n3, n4, hk1, hk2, ghk4ann, ghk4b, ghk5, hhk5] at hk6
            all_goals
            obtain rfl := so_some h
            refine ⟨0, fun L hL => ?_⟩
            simp only [go_sem, ir19, E_spec_l06Ok_l1, R_spec_l06Ok_l1, ir19_b0, ir19_k0, ir19_o0, ir19_r0, hk1, hk2, lhk2, xhk2, fhk3, ghk4ann, ghk4b, ghk5, hhk5, fhk5, hk6]
          · try simp only [go_sem, n1, n2, n3, n4, hk1, hk2, ghk4ann, ghk4b, ghk5, hhk5] at hk6
            all_goals
            obtain rfl := so_some h
            refine ⟨0, fun L hL => ?_⟩
            simp only [go_sem, ir19, E_spec_l06Ok_l1, R_spec_l06Ok_l1, ir19_b0, ir19_k0, ir19_o0, ir19_r0, hk1, hk2, lhk2, xhk2, fhk3, ghk4ann, ghk4b, ghk5, hhk5, fhk5, hk6]
        · rcases and_f ghk5 with ghk5a | ⟨ghk5a, ghk5b⟩
          · have ghk5an := no_f ghk5a
            have ghk5ann := no_t ghk5an
            try simp only [go_sem, n1, n2, n3, n4, hk1, hk2, ghk4ann, ghk4b] at ghk5ann
            all_goals
            rcases it_some h with ⟨hk6, h⟩ | ⟨hk6, h⟩
            · try simp only [go_sem, n1, n2, n3, n4, hk1, hk2, ghk4ann, ghk4b, ghk5ann] at hk6
              all_goals
              obtain rfl := so_some h
              refine ⟨0, fun L hL => ?_⟩
              simp only [go_sem, ir19, E_spec_l06Ok_l1, R_spec_l06Ok_l1, ir19_b0, ir19_k0, ir19_o0, ir19_r0, hk1, hk2, lhk2, xhk2, fhk3, ghk4ann, ghk4b, ghk5ann, hk6]
            · try simp only [go_sem, n1, n2, n3, n4, hk1, hk2, ghk4ann, ghk4b, ghk5ann] at hk6
              all_goals
              obtain rfl := so_some h
              refine ⟨0, fun L hL => ?_⟩
              simp only [go_sem, ir19, E_spec_l06Ok_l1, R_spec_l06Ok_l1, ir19_b0, ir19_k0, ir19_o0, ir19_r0, hk1, hk2, lhk2, xhk2, fhk3, ghk4ann, ghk4b, ghk5ann, hk6]
          · have ghk5an := no_t ghk5a
            have ghk5ann := no_f ghk5an
            try simp only [go_sem, n1, n2, n3, n4, hk1, hk2, ghk4ann, ghk4b] at ghk5ann
            all_goals
            try simp only [go_sem, n1, n2, n3, n4, hk1, hk2, ghk4ann, ghk4b, ghk5ann] at ghk5b
            all_goals
            rcases it_some h with ⟨hk6, h⟩ | ⟨hk6, h⟩
            · try simp only [go_sem, n1, n2, n3, n4, hk1, hk2, ghk4ann, ghk4b, ghk5ann, ghk5b] at hk6
              all_goals
              obtain rfl := so_some h
              refine ⟨0, fun L hL => ?_⟩
              simp only [go_sem, ir19, E_spec_l06Ok_l1, R_spec_l06Ok_l1, ir19_b0, ir19_k0, ir19_o0, ir19_r0, hk1, hk2, lhk2, xhk2, fhk3, ghk4ann, ghk4b, ghk5ann, ghk5b, hk6]
            · try simp only [go_sem, n1, n2, n3, n4, hk1, hk2, ghk4ann, ghk4b, ghk5ann, ghk5b] at hk6
              all_goals
              obtain rfl := so_some h
              refine ⟨0, fun L hL => ?_⟩
              simp only [go_sem, ir19, E_spec_l06Ok_l1, R_spec_l06Ok_l1, ir19_b0, ir19_k0, ir19_o0, ir19_r0, hk1, hk2, lhk2, xhk2, fhk3, ghk4ann, ghk4b, ghk5ann, ghk5b, hk6]
  · try simp only [go_sem, n1, n2, n3, n4] at hk1
    all_goals
    obtain rfl := so_some h
    refine ⟨0, fun L hL => ?_⟩
    simp only [go_sem, ir19, E_spec_l06Ok_l1, R_spec_l06Ok_l1, ir19_b0, ir19_k0, ir19_o0, ir19_r0, hk1]

theorem Fs_spec_l06Ok {list : List Estimate} {y_ : Bool} (h : spec_l06Ok list = some y_) : c_spec_l06Ok.F [.sl 5 (List.map Estimate_av list)] = ⟨true, .bool y_, [.any]⟩ := by
  refine mkF_E rfl ?_
  dsimp only [spec_l06Ok] at h
  obtain ⟨y_7, hk7, h⟩ := bd_some h
  obtain ⟨Lhk7, ehk7⟩ := spec_l06Ok_l1_ex hk7
  rcases y_7 with y_7a | y_7b
  · dsimp only at h
    obtain rfl := so_some h
    refine ⟨Lhk7, fun L hL => ?_⟩
    have ehk7 := ehk7 L (by omega)
    try simp only [go_sem, E_spec_l06Ok_l1, R_spec_l06Ok_l1, ir19_k0, ir19_o0, ir19_r0] at ehk7
    simp only [go_sem, ir19, E_spec_l06Ok_l1, R_spec_l06Ok_l1, ir19_k0, ir19_o0, ir19_r0, ehk7]
  · dsimp only at h
    obtain rfl := so_some h
    refine ⟨Lhk7, fun L hL => ?_⟩
    have ehk7 := ehk7 L (by omega)
    try simp only [go_sem, E_spec_l06Ok_l1, R_spec_l06Ok_l1, ir19_k0, ir19_o0, ir19_r0] at ehk7
    simp only [go_sem, ir19, E_spec_l06Ok_l1, R_spec_l06Ok_l1, ir19_k0, ir19_o0, ir19_r0, ehk7]


def ir66_b0 : IR := .seq (.test false [
    ⟨.push, 9, none, .mov (.v 3)⟩,
    ⟨.push, 10, none, .bin false .gtr (.s 0) (.c (.int .i64 (0)))⟩,
    ⟨.push, 11, none, .mov (.s 0)⟩,
    ⟨.push, 12, (some ((.s 0), true)), .mov (.v 0)⟩,
    ⟨.push, 13, (some ((.s 1), true)), .mov (.v 3)⟩,
    ⟨.push, 14, (some ((.s 2), true)), .bin false .sub (.s 0) (.c (.int .i64 (1)))⟩,
    ⟨.push, 15, (some ((.s 3), true)), .ixAddr 1 (.s 2) (.s 0)⟩,
    ⟨.push, 16, (some ((.s 4), true)), .load false 1 (.s 0)⟩,
    ⟨.push, 17, (some ((.s 5), true)), .mov (.v 1)⟩,
    ⟨.push, 18, (some ((.s 6), true)), .bin false .gtr (.s 1) (.s 0)⟩,
    ⟨.push, 19, none, .pick (.s 7) (.s 0) (.c (.bool false))⟩] (.s 0)
  (.skip)
  (.exit 0))
 (.block 1 (.region false [
    ⟨.push, 20, none, .mov (.v 3)⟩,
    ⟨.push, 21, none, .bin false .sub (.s 0) (.c (.int .i64 (1)))⟩,
    ⟨.var 3, 5, none, .mov (.s 0)⟩]))
def ir66_k0 : List Bool := [true, true, false, true, false]
def ir66_o0 : List Bool := [true, true, false, true, false]
def ir66_r0 : List Bool := [false, false, true, false, false]
def ir66_v : List Nat := [0, 1, 4, 5, 6]
def ir66 : AFn := ⟨2, 5, .seq (.region false [
    ⟨.var 2, 4, none, .newnil 1⟩])
 (.seq (.region false [
    ⟨.push, 7, none, .mov (.v 0)⟩,
    ⟨.push, 8, none, .len false (.s 0)⟩,
    ⟨.var 3, 5, none, .mov (.s 0)⟩])
 (.seq (.block 0 (.loop ir66_k0 ir66_o0 ir66_r0 ir66_b0))
 (.seq (.test false [
    ⟨.push, 22, none, .mov (.v 3)⟩,
    ⟨.push, 23, none, .bin false .gtr (.s 0) (.c (.int .i64 (0)))⟩,
    ⟨.push, 24, none, .mov (.s 0)⟩,
    ⟨.push, 25, (some ((.s 0), true)), .mov (.v 0)⟩,
    ⟨.push, 26, (some ((.s 1), true)), .mov (.v 3)⟩,
    ⟨.push, 27, (some ((.s 2), true)), .bin false .sub (.s 0) (.c (.int .i64 (1)))⟩,
    ⟨.push, 28, (some ((.s 3), true)), .ixAddr 1 (.s 2) (.s 0)⟩,
    ⟨.push, 29, (some ((.s 4), true)), .load false 1 (.s 0)⟩,
    ⟨.push, 30, (some ((.s 5), true)), .mov (.v 1)⟩,
    ⟨.push, 31, (some ((.s 6), true)), .bin false .eql (.s 1) (.s 0)⟩,
    ⟨.push, 32, none, .pick (.s 7) (.s 0) (.c (.bool false))⟩] (.s 0)
  (.seq (.region false [
      ⟨.push, 33, none, .mov (.v 0)⟩,
      ⟨.var 2, 4, none, .mov (.s 0)⟩])
   (.ret))
  (.skip))
 (.seq (.region false [
    ⟨.push, 34, none, .mkSl 1 (.str []) 0 []⟩,
    ⟨.push, 35, none, .mov (.v 0)⟩,
    ⟨.push, 36, none, .mov (.v 3)⟩,
    ⟨.push, 37, none, .slice 1 (.s 1) none (some (.s 0))⟩,
    ⟨.push, 38, none, .app 1 16 (.str []) (.s 3) (.s 0)⟩,
    ⟨.var 4, 6, none, .mov (.s 0)⟩])
 (.seq (.region false [
    ⟨.push, 39, none, .mov (.v 4)⟩,
    ⟨.push, 40, none, .mov (.v 1)⟩,
    ⟨.push, 41, none, .mkSl 1 (.str []) 1 [(0, (.s 0))]⟩,
    ⟨.push, 42, none, .app 1 16 (.str []) (.s 2) (.s 0)⟩,
    ⟨.var 4, 6, none, .mov (.s 0)⟩])
 (.seq (.region false [
    ⟨.push, 43, none, .mov (.v 4)⟩,
    ⟨.push, 44, none, .mov (.v 0)⟩,
    ⟨.push, 45, none, .mov (.v 3)⟩,
    ⟨.push, 46, none, .slice 1 (.s 1) (some (.s 0)) none⟩,
    ⟨.push, 47, none, .app 1 16 (.str []) (.s 3) (.s 0)⟩,
    ⟨.var 2, 4, none, .mov (.s 0)⟩])
 (.ret))))))), [.t 2]⟩
noncomputable def t_spec_l06PutName : List (Nat × Ctr) := []
noncomputable def c_spec_l06PutName : Ctr := mkZ t_spec_l06PutName ir66 [.bor, .bor]
theorem s_spec_l06PutName : Sound Try.prog 66 c_spec_l06PutName := mkZ_sound _ snd_nil (by kernel_rfl : chkFn Try.prog 66 ir66 ir66_v = true)
theorem M_spec_l06PutName : c_spec_l06PutName.modes = [.bor, .bor] := rfl
theorem Fl_spec_l06PutName : c_spec_l06PutName.flat = false := rfl
attribute [go_sem] M_spec_l06PutName Fl_spec_l06PutName
def E_spec_l06PutName_l1 (list : List (List UInt8)) (name : List UInt8) : Int → St
  | k => ⟨[.sl 1 (List.map AV.str list), .str name, .any, .int .i64 k, .any], [], [], true⟩
def R_spec_l06PutName_l1 (list : List (List UInt8)) (name : List UInt8) (y : Int) : Res := (.exit 0, ⟨[.sl 1 (List.map AV.str list), .str name, .any, .int .i64 y, .any], [], [], true⟩)
theorem spec_l06PutName_l1_ex {list : List (List UInt8)} {name : List UInt8} {sgm_ : Int} {rho_ : Int} (h : whileE (spec_l06PutName_l1 list name) sgm_ = some rho_) : ∃ L0, ∀ L, L0 ≤ L → iter (exec (look t_spec_l06PutName) L ir66_b0) ir66_k0 ir66_o0 ir66_r0 L (E_spec_l06PutName_l1 list name sgm_) = R_spec_l06PutName_l1 list name rho_ := by
  refine loop_ex (E := E_spec_l06PutName_l1 list name) (R := R_spec_l06PutName_l1 list name) (fun y => by first | (intro c; cases c) | (rcases y with y | y <;> (intro c; cases c)) | (rcases y with y | y | y <;> (intro c; cases c))) ?_ h
  clear h
  intro k o_ h
  dsimp only [spec_l06PutName_l1] at h
  obtain ⟨hk1, h⟩ := ck_some h
  rcases or_split hk1 with ⟨ghk1, hk1⟩ | ghk1
  · try simp only [go_sem, n1, n2, n3, n4] at ghk1
    all_goals
    have lhk1 := ix_lt hk1
    have xhk1 := getD_mapD AV.str list lhk1
    try simp only [go_sem] at lhk1
    try simp only [go_sem] at xhk1
    try simp only [go_sem, n1, n2, n3, n4, ghk1] at hk1
    all_goals
    rcases it_some h with ⟨hk2, h⟩ | ⟨hk2, h⟩
    · try simp only [go_sem, n1, n2, n3, n4, ghk1, hk1] at hk2
      all_goals
      obtain rfl := so_some h
      refine ⟨0, fun L hL => ?_⟩
      simp only [go_sem, ir66, E_spec_l06PutName_l1, R_spec_l06PutName_l1, ir66_b0, ir66_k0, ir66_o0, ir66_r0, ghk1, hk1, lhk1, xhk1, hk2]
    · try simp only [go_sem, n1, n2, n3, n4, ghk1, hk1] at hk2
      all_goals
      obtain rfl := so_some h
      refine ⟨0, fun L hL => ?_⟩
      simp only [go_sem, ir66, E_spec_l06PutName_l1, R_spec_l06PutName_l1, ir66_b0, ir66_k0, ir66_o0, ir66_r0, ghk1, hk1, lhk1, xhk1, hk2]
  · try simp only [go_sem, n1, n2, n3, n4] at ghk1
    all_goals
    rcases it_some h with ⟨hk2, h⟩ | ⟨hk2, h⟩
    · try simp only [go_sem, n1, n2, n3, n4, ghk1] at hk2
      all_goals
      obtain rfl := so_some h
      refine ⟨0, fun L hL => ?_⟩
      simp only [go_sem, ir66, E_spec_l06PutName_l1, R_spec_l06PutName_l1, ir66_b0, ir66_k0, ir66_o0, ir66_r0, ghk1, hk2]
    · try simp only [go_sem, n1, n2, n3, n4, ghk1] at hk2
      all_goals
      obtain rfl := so_some h
      refine ⟨0, fun L hL => ?_⟩
      simp only [go_sem, ir66, E_spec_l06PutName_l1, R_spec_l06PutName_l1, ir66_b0, ir66_k0, ir66_o0, ir66_r0, ghk1, hk2]

theorem Fs_spec_l06PutName {list : List (List UInt8)} {name : List UInt8} {y_ : (List (List UInt8))} (h : spec_l06PutName list name = some y_) : c_spec_l06PutName.F [.sl 1 (List.map AV.str list), .str name] = ⟨true, .sl 1 (List.map AV.str y_), [.any, .any]⟩ := by
  refine mkZ_E ?_
  dsimp only [spec_l06PutName] at h
  obtain ⟨y_3, hk3, h⟩ := bd_some h
  obtain ⟨Lhk3, ehk3⟩ := spec_l06PutName_l1_ex hk3
  obtain ⟨hk4, h⟩ := ck_some h
  rcases or_split hk4 with ⟨ghk4, hk4⟩ | ghk4
  · try simp only [go_sem, n1, n2, n3, n4] at ghk4
    all_goals
    have lhk4 := ix_lt hk4
    have xhk4 := getD_mapD AV.str list lhk4
    try simp only [go_sem] at lhk4
    try simp only [go_sem] at xhk4
    try simp only [go_sem, n1, n2, n3, n4, ghk4] at hk4
    all_goals
    rcases it_some h with ⟨hk5, h⟩ | ⟨hk5, h⟩
    · try simp only [go_sem, n1, n2, n3, n4, ghk4, hk4] at hk5
      all_goals
      obtain rfl := so_some h
      refine ⟨Lhk3, fun L hL => ?_⟩
      have ehk3 := ehk3 L (by omega)
      try simp only [go_sem, E_spec_l06PutName_l1, R_spec_l06PutName_l1, ir66_k0, ir66_o0, ir66_r0, ghk4, hk4, hk5] at ehk3
      simp only [go_sem, ir66, E_spec_l06PutName_l1, R_spec_l06PutName_l1, ir66_k0, ir66_o0, ir66_r0, ghk4, hk4, lhk4, xhk4, hk5, ehk3]
    · try simp only [go_sem, n1, n2, n3, n4, ghk4, hk4] at hk5
      all_goals
      obtain ⟨hk6, h⟩ := ck_some h
      try simp only [go_sem, n1, n2, n3, n4, ghk4, hk4, hk5] at hk6
      all_goals
      obtain ⟨hk7, h⟩ := ck_some h
      try simp only [go_sem, n1, n2, n3, n4, ghk4, hk4, hk5, hk6] at hk7
      all_goals
      obtain ⟨hk8, h⟩ := ck_some h
      try simp only [go_sem, n1, n2, n3, n4, ghk4, hk4, hk5, hk6, hk7] at hk8
      all_goals
      obtain ⟨hk9, h⟩ := ck_some h
      try simp only [go_sem, n1, n2, n3, n4, ghk4, hk4, hk5, hk6, hk7, hk8] at hk9
      all_goals
      obtain ⟨hk10, h⟩ := ck_some h
      try simp only [go_sem, n1, n2, n3, n4, ghk4, hk4, hk5, hk6, hk7, hk8, hk9] at hk10
      all_goals
      obtain rfl := so_some h
      refine ⟨Lhk3, fun L hL => ?_⟩
      have ehk3 := ehk3 L (by omega)
      try simp only [go_sem, E_spec_l06PutName_l1, R_spec_l06PutName_l1, ir66_k0, ir66_o0, ir66_r0, ghk4, hk4, hk5, hk6, hk7, hk8, hk9, hk10] at ehk3
      simp only [go_sem, ir66, E_spec_l06PutName_l1, R_spec_l06PutName_l1, ir66_k0, ir66_o0, ir66_r0, ghk4, hk4, lhk4, xhk4, hk5, hk6, hk7, hk8, hk9, hk10, ehk3]
  · try simp only [go_sem, n1, n2, n3, n4] at ghk4
    all_goals
    rcases it_some h with ⟨hk5, h⟩ | ⟨hk5, h⟩
    · try simp only [go_sem, n1, n2, n3, n4, ghk4] at hk5
      all_goals
      obtain rfl := so_some h
      refine ⟨Lhk3, fun L hL => ?_⟩
      have ehk3 := ehk3 L (by omega)
      try simp only [go_sem, E_spec_l06PutName_l1, R_spec_l06PutName_l1, ir66_k0, ir66_o0, ir66_r0, ghk4, hk5] at ehk3
      simp only [go_sem, ir66, E_spec_l06PutName_l1, R_spec_l06PutName_l1, ir66_k0, ir66_o0, ir66_r0, ghk4, hk5, ehk3]
    · try simp only [go_sem, n1, n2, n3, n4, ghk4] at hk5
      all_goals
      obtain ⟨hk6, h⟩ := ck_some h
      try simp only [go_sem, n1, n2, n3, n4, ghk4, hk5] at hk6
      all_goals
      obtain ⟨hk7, h⟩ := ck_some h
      try simp only [go_sem, n1, n2, n3, n4, ghk4, hk5, hk6] at hk7
      all_goals
      obtain ⟨hk8, h⟩ := ck_some h
      try simp only [go_sem, n1, n2, n3, n4, ghk4, hk5, hk6, hk7] at hk8
      all_goals
      obtain ⟨hk9, h⟩ := ck_some h
      try simp only [go_sem, n1, n2, n3, n4, ghk4, hk5, hk6, hk7, hk8] at hk9
      all_goals
      obtain ⟨hk10, h⟩ := ck_some h
      try simp only [go_sem, n1, n2, n3, n4, ghk4, hk5, hk6, hk7, hk8, hk9] at hk10
      all_goals
      obtain rfl := so_some h
      refine ⟨Lhk3, fun L hL => ?_⟩
      have ehk3 := ehk3 L (by omega)
      try simp only [go_sem, E_spec_l06PutName_l1, R_spec_l06PutName_l1, ir66_k0, ir66_o0, ir66_r0, ghk4, hk5, hk6, hk7, hk8, hk9, hk10] at ehk3
      simp only [go_sem, ir66, E_spec_l06PutName_l1, R_spec_l06PutName_l1, ir66_k0, ir66_o0, ir66_r0, ghk4, hk5, hk6, hk7, hk8, hk9, hk10, ehk3]


def ir45_b0 : IR := .seq (.test false [
    ⟨.push, 8, none, .mov (.v 4)⟩,
    ⟨.push, 9, none, .mov (.v 0)⟩,
    ⟨.push, 10, none, .len false (.s 0)⟩,
    ⟨.push, 11, none, .bin false .lss (.s 2) (.s 0)⟩] (.s 0)
  (.skip)
  (.exit 0))
 (.seq (.block 1 (.test false [
     ⟨.push, 14, none, .mov (.v 1)⟩] (.s 0)
   (.region false [
      ⟨.push, 15, none, .mov (.v 3)⟩,
      ⟨.push, 16, none, .mov (.v 0)⟩,
      ⟨.push, 17, none, .mov (.v 4)⟩,
      ⟨.push, 18, none, .ixAddr 5 (.s 1) (.s 0)⟩,
      ⟨.push, 19, none, .fldAddr 1 (.s 0)⟩,
      ⟨.push, 20, none, .load false 1 (.s 0)⟩,
      ⟨.push, 21, none, .call 66 [(.s 5), (.s 0)]⟩,
      ⟨.var 3, 5, none, .mov (.s 0)⟩])
   (.region false [
      ⟨.push, 22, none, .mov (.v 3)⟩,
      ⟨.push, 23, none, .mov (.v 0)⟩,
      ⟨.push, 24, none, .mov (.v 4)⟩,
      ⟨.push, 25, none, .ixAddr 5 (.s 1) (.s 0)⟩,
      ⟨.push, 26, none, .fldAddr 2 (.s 0)⟩,
      ⟨.push, 27, none, .load false 1 (.s 0)⟩,
      ⟨.push, 28, none, .call 66 [(.s 5), (.s 0)]⟩,
      ⟨.var 3, 5, none, .mov (.s 0)⟩])))
 (.region false [
   ⟨.push, 12, none, .mov (.v 4)⟩,
   ⟨.push, 13, none, .bin false .add (.s 0) (.c (.int .i64 (1)))⟩,
   ⟨.var 4, 6, none, .mov (.s 0)⟩]))
def ir45_k0 : List Bool := [true, true, false, true, true]
def ir45_o0 : List Bool := [false, false, false, true, false]
def ir45_r0 : List Bool := [false, false, true, false, false]
def ir45_v : List Nat := [0, 1, 4, 5, 6]
def ir45 : AFn := ⟨2, 5, .seq (.region false [
    ⟨.var 2, 4, none, .newnil 1⟩])
 (.seq (.region false [
    ⟨.push, 7, none, .pur (.mkSl 1 (.str []) 0 [])⟩,
    ⟨.var 3, 5, none, .mov (.s 0)⟩])
 (.seq (.seq (.region false [
     ⟨.var 4, 6, none, .mov (.c (.int .i64 (0)))⟩])
  (.block 0 (.loop ir45_k0 ir45_o0 ir45_r0 ir45_b0)))
 (.seq (.region false [
    ⟨.push, 29, none, .mov (.v 3)⟩,
    ⟨.var 2, 4, none, .mov (.s 0)⟩])
 (.ret)))), [.t 2]⟩
noncomputable def t_spec_l25Names : List (Nat × Ctr) := [(66, c_spec_l06PutName)]
theorem lk_spec_l25Names_66 : look t_spec_l25Names 66 = some c_spec_l06PutName := rfl
noncomputable def c_spec_l25Names : Ctr := mkN t_spec_l25Names ir45 [.bor, .bor]
theorem s_spec_l25Names : Sound Try.prog 45 c_spec_l25Names := mkN_sound _ (snd_cons s_spec_l06PutName snd_nil) (by kernel_rfl : chkFn Try.prog 45 ir45 ir45_v = true)
theorem M_spec_l25Names : c_spec_l25Names.modes = [.bor, .bor] := rfl
theorem Fl_spec_l25Names : c_spec_l25Names.flat = false := rfl
attribute [go_sem] M_spec_l25Names Fl_spec_l25Names
attribute [go_sem] lk_spec_l25Names_66
def E_spec_l25Names_l1 (list : List Estimate) (star : Bool) : ((List (List UInt8)) × Int) → St
  | (out, i) => ⟨[.sl 5 (List.map Estimate_av list), .bool star, .any, .sl 1 (List.map AV.str out), .int .i64 i], [], [], true⟩
def R_spec_l25Names_l1 (list : List Estimate) (star : Bool) (y : (List (List UInt8))) : Res := (.exit 0, ⟨[.any, .any, .any, .sl 1 (List.map AV.str y), .any], [], [], true⟩)
theorem spec_l25Names_l1_ex {list : List Estimate} {star : Bool} {sgm_ : (List (List UInt8)) × Int} {rho_ : (List (List UInt8))} (h : whileE (spec_l25Names_l1 list star) sgm_ = some rho_) : ∃ L0, ∀ L, L0 ≤ L → iter (exec (look t_spec_l25Names) L ir45_b0) ir45_k0 ir45_o0 ir45_r0 L (E_spec_l25Names_l1 list star sgm_) = R_spec_l25Names_l1 list star rho_ := by
  refine loop_ex (E := E_spec_l25Names_l1 list star) (R := R_spec_l25Names_l1 list star) (fun y => by first | (intro c; cases c) | (rcases y with y | y <;> (intro c; cases c)) | (rcases y with y | y | y <;> (intro c; cases c))) ?_ h
  clear h
  rintro ⟨out, i⟩ o_ h
  dsimp only [spec_l25Names_l1] at h
  rcases it_some h with ⟨hk1, h⟩ | ⟨hk1, h⟩
  · try simp only [go_sem, n1, n2, n3, n4] at hk1
    all_goals
    rcases it_some h with ⟨hk2, h⟩ | ⟨hk2, h⟩
    · try simp only [go_sem, n1, n2, n3, n4, hk1] at hk2
      all_goals
      obtain ⟨hk3, h⟩ := ck_some h
      have lhk3 := ix_lt hk3
      have xhk3 := getD_mapD Estimate_av list lhk3
      try simp only [go_sem] at lhk3
      try simp only [go_sem] at xhk3
      try simp only [go_sem, n1, n2, n3, n4, hk1, hk2] at hk3
      all_goals
      obtain ⟨y_4, hk4, h⟩ := bd_some h
      have fhk4 := Fs_spec_l06PutName hk4
      try simp only [go_sem, hk1, hk2, hk3] at fhk4
      obtain rfl := so_some h
      refine ⟨0, fun L hL => ?_⟩
      simp only [go_sem, ir45, E_spec_l25Names_l1, R_spec_l25Names_l1, ir45_b0, ir45_k0, ir45_o0, ir45_r0, hk1, hk2, hk3, lhk3, xhk3, fhk4]
    · try simp only [go_sem, n1, n2, n3, n4, hk1] at hk2
      all_goals
      obtain ⟨hk5, h⟩ := ck_some h
      have lhk5 := ix_lt hk5
      have xhk5 := getD_mapD Estimate_av list lhk5
      try simp only [go_sem] at lhk5
      try simp only [go_sem] at xhk5
      try simp only [go_sem, n1, n2, n3, n4, hk1, hk2] at hk5
      all_goals
      obtain ⟨y_6, hk6, h⟩ := bd_some h
      have fhk6 := Fs_spec_l06PutName hk6
      try simp only [go_sem, hk1, hk2, hk5] at fhk6
      obtain rfl := so_some h
      refine ⟨0, fun L hL => ?_⟩
      simp only [go_sem, ir45, E_spec_l25Names_l1, R_spec_l25Names_l1, ir45_b0, ir45_k0, ir45_o0, ir45_r0, hk1, hk2, hk5, lhk5, xhk5, fhk6]
  · try simp only [go_sem, n1, n2, n3, n4] at hk1
    all_goals
    obtain rfl := so_some h
    refine ⟨0, fun L hL => ?_⟩
    simp only [go_sem, ir45, E_spec_l25Names_l1, R_spec_l25Names_l1, ir45_b0, ir45_k0, ir45_o0, ir45_r0, hk1]

theorem Fs_spec_l25Names {list : List Estimate} {star : Bool} {y_ : (List (List UInt8))} (h : spec_l25Names list star = some y_) : c_spec_l25Names.F [.sl 5 (List.map Estimate_av list), .bool star] = ⟨true, .sl 1 (List.map AV.str y_), [.any, .any]⟩ := by
  refine mkN_E ?_
  dsimp only [spec_l25Names] at h
  obtain ⟨y_7, hk7, h⟩ := bd_some h
  obtain ⟨Lhk7, ehk7⟩ := spec_l25Names_l1_ex hk7
  obtain rfl := so_some h
  refine ⟨Lhk7, fun L hL => ?_⟩
  have ehk7 := ehk7 L (by omega)
  try simp only [go_sem, E_spec_l25Names_l1, R_spec_l25Names_l1, ir45_k0, ir45_o0, ir45_r0] at ehk7
  simp only [go_sem, ir45, E_spec_l25Names_l1, R_spec_l25Names_l1, ir45_k0, ir45_o0, ir45_r0, ehk7]


def ir47_b0 : IR := .seq (.test false [
    ⟨.push, 5, none, .mov (.v 0)⟩,
    ⟨.push, 6, none, .bin false .geq (.s 0) (.c (.int .i64 (128)))⟩] (.s 0)
  (.skip)
  (.exit 0))
 (.block 1 (.seq (.region false [
     ⟨.push, 7, none, .mov (.v 2)⟩,
     ⟨.push, 8, none, .mov (.v 0)⟩,
     ⟨.push, 9, none, .bin false .rem (.s 0) (.c (.int .i64 (128)))⟩,
     ⟨.push, 10, none, .bin false .add (.s 0) (.c (.int .i64 (128)))⟩,
     ⟨.push, 11, none, .conv .u8 (.s 0)⟩,
     ⟨.push, 12, none, .mkSl 1 (.int .u8 (0)) 1 [(0, (.s 0))]⟩,
     ⟨.push, 13, none, .app 1 1 (.int .u8 (0)) (.s 5) (.s 0)⟩,
     ⟨.var 2, 3, none, .mov (.s 0)⟩])
  (.region false [
    ⟨.push, 14, none, .mov (.v 0)⟩,
    ⟨.push, 15, none, .bin false .quo (.s 0) (.c (.int .i64 (128)))⟩,
    ⟨.var 0, 0, none, .mov (.s 0)⟩])))
def ir47_k0 : List Bool := [true, false, true]
def ir47_o0 : List Bool := [true, false, true]
def ir47_r0 : List Bool := [false, true, false]
def ir47_v : List Nat := [0, 2, 3]
def ir47 : AFn := ⟨1, 3, .seq (.region false [
    ⟨.var 1, 2, none, .newnil 1⟩])
 (.seq (.region false [
    ⟨.push, 4, none, .mkSl 1 (.int .u8 (0)) 0 []⟩,
    ⟨.var 2, 3, none, .mov (.s 0)⟩])
 (.seq (.block 0 (.loop ir47_k0 ir47_o0 ir47_r0 ir47_b0))
 (.seq (.region false [
    ⟨.push, 16, none, .mov (.v 2)⟩,
    ⟨.push, 17, none, .mov (.v 0)⟩,
    ⟨.push, 18, none, .conv .u8 (.s 0)⟩,
    ⟨.push, 19, none, .mkSl 1 (.int .u8 (0)) 1 [(0, (.s 0))]⟩,
    ⟨.push, 20, none, .app 1 1 (.int .u8 (0)) (.s 3) (.s 0)⟩,
    ⟨.var 1, 2, none, .mov (.s 0)⟩])
 (.ret)))), [.t 1]⟩
noncomputable def t_spec_l25Number : List (Nat × Ctr) := []
noncomputable def c_spec_l25Number : Ctr := mkF t_spec_l25Number ir47 [.bor]
theorem s_spec_l25Number : Sound Try.prog 47 c_spec_l25Number := mkF_sound _ rfl snd_nil (by kernel_rfl : chkFn Try.prog 47 ir47 ir47_v = true)
theorem M_spec_l25Number : c_spec_l25Number.modes = [.bor] := rfl
theorem Fl_spec_l25Number : c_spec_l25Number.flat = true := rfl
attribute [go_sem] M_spec_l25Number Fl_spec_l25Number
def E_spec_l25Number_l1  : (Int × (List UInt8)) → St
  | (n, out) => ⟨[.int .i64 n, .any, .own 3200000], [], [(3200000, ⟨1, List.map byteAV out⟩)], true⟩
def R_spec_l25Number_l1  (y : Int × (List UInt8)) : Res := (.exit 0, ⟨[.int .i64 y.1, .any, .own 3200000], [], [(3200000, ⟨1, List.map byteAV y.2⟩)], true⟩)
theorem spec_l25Number_l1_ex  {sgm_ : Int × (List UInt8)} {rho_ : Int × (List UInt8)} (h : whileE (spec_l25Number_l1) sgm_ = some rho_) : ∃ L0, ∀ L, L0 ≤ L → iter (exec (look t_spec_l25Number) L ir47_b0) ir47_k0 ir47_o0 ir47_r0 L (E_spec_l25Number_l1 sgm_) = R_spec_l25Number_l1 rho_ := by
  refine loop_ex (E := E_spec_l25Number_l1) (R := R_spec_l25Number_l1) (fun y => by first | (intro c; cases c) | (rcases y with y | y <;> (intro c; cases c)) | (rcases y with y | y | y <;> (intro c; cases c))) ?_ h
  clear h
  rintro ⟨n, out⟩ o_ h
  dsimp only [spec_l25Number_l1] at h
  rcases it_some h with ⟨hk1, h⟩ | ⟨hk1, h⟩
  · try simp only [go_sem, n1, n2, n3, n4] at hk1
    all_goals
    obtain ⟨hk2, h⟩ := ck_some h
    try simp only [go_sem, n1, n2, n3, n4, hk1] at hk2
    all_goals
    obtain ⟨hk3, h⟩ := ck_some h
    try simp only [go_sem, n1, n2, n3, n4, hk1, hk2] at hk3
    all_goals
    obtain rfl := so_some h
    refine ⟨0, fun L hL => ?_⟩
    simp only [go_sem, ir47, E_spec_l25Number_l1, R_spec_l25Number_l1, ir47_b0, ir47_k0, ir47_o0, ir47_r0, hk1, hk2, hk3]
  · try simp only [go_sem, n1, n2, n3, n4] at hk1
    all_goals
    obtain rfl := so_some h
    refine ⟨0, fun L hL => ?_⟩
    simp only [go_sem, ir47, E_spec_l25Number_l1, R_spec_l25Number_l1, ir47_b0, ir47_k0, ir47_o0, ir47_r0, hk1]

theorem Fs_spec_l25Number {n : Int} {y_ : (List UInt8)} (h : spec_l25Number n = some y_) : c_spec_l25Number.F [.int .i64 n] = ⟨true, .fresh 1 (List.map byteAV y_), [.any]⟩ := by
  refine mkF_E (by simp only [flatA, flatB, flat1, List.all_cons, List.all_nil, Bool.and_self, flatE_map (f := byteAV) (fun _ => rfl)]) ?_
  dsimp only [spec_l25Number] at h
  obtain ⟨y_4, hk4, h⟩ := bd_some h
  obtain ⟨Lhk4, ehk4⟩ := spec_l25Number_l1_ex hk4
  obtain ⟨hk5, h⟩ := ck_some h
  try simp only [go_sem, n1, n2, n3, n4] at hk5
  all_goals
  obtain rfl := so_some h
  refine ⟨Lhk4, fun L hL => ?_⟩
  have ehk4 := ehk4 L (by omega)
  try simp only [go_sem, E_spec_l25Number_l1, R_spec_l25Number_l1, ir47_k0, ir47_o0, ir47_r0, hk5] at ehk4
  simp only [go_sem, ir47, E_spec_l25Number_l1, R_spec_l25Number_l1, ir47_k0, ir47_o0, ir47_r0, hk5, ehk4]


def ir46_b0 : IR := .seq (.test false [
    ⟨.push, 11, none, .mov (.v 3)⟩,
    ⟨.push, 12, none, .mov (.v 1)⟩,
    ⟨.push, 13, none, .len false (.s 0)⟩,
    ⟨.push, 14, none, .bin false .lss (.s 2) (.s 0)⟩] (.s 0)
  (.skip)
  (.exit 0))
 (.seq (.block 1 (.seq (.region false [
      ⟨.push, 17, none, .mov (.v 0)⟩,
      ⟨.push, 18, none, .mov (.v 1)⟩,
      ⟨.push, 19, none, .mov (.v 3)⟩,
      ⟨.push, 20, none, .ixAddr 1 (.s 1) (.s 0)⟩,
      ⟨.push, 21, none, .load false 1 (.s 0)⟩,
      ⟨.push, 22, none, .len true (.s 0)⟩,
      ⟨.push, 23, none, .call 47 [(.s 0)]⟩,
      ⟨.push, 24, none, .app 1 1 (.int .u8 (0)) (.s 6) (.s 0)⟩,
      ⟨.var 0, 0, none, .mov (.s 0)⟩])
   (.region false [
     ⟨.push, 25, none, .mov (.v 0)⟩,
     ⟨.push, 26, none, .mov (.v 1)⟩,
     ⟨.push, 27, none, .mov (.v 3)⟩,
     ⟨.push, 28, none, .ixAddr 1 (.s 1) (.s 0)⟩,
     ⟨.push, 29, none, .load false 1 (.s 0)⟩,
     ⟨.push, 30, none, .app 1 1 (.int .u8 (0)) (.s 4) (.s 0)⟩,
     ⟨.var 0, 0, none, .mov (.s 0)⟩])))
 (.region false [
   ⟨.push, 15, none, .mov (.v 3)⟩,
   ⟨.push, 16, none, .bin false .add (.s 0) (.c (.int .i64 (1)))⟩,
   ⟨.var 3, 5, none, .mov (.s 0)⟩]))
def ir46_k0 : List Bool := [true, true, false, true]
def ir46_o0 : List Bool := [true, false, false, false]
def ir46_r0 : List Bool := [false, false, true, false]
def ir46_v : List Nat := [0, 1, 4, 5]
def ir46 : AFn := ⟨2, 4, .seq (.region false [
    ⟨.var 2, 4, none, .newnil 1⟩])
 (.seq (.region false [
    ⟨.push, 6, none, .mov (.v 0)⟩,
    ⟨.push, 7, none, .mov (.v 1)⟩,
    ⟨.push, 8, none, .len false (.s 0)⟩,
    ⟨.push, 9, none, .call 47 [(.s 0)]⟩,
    ⟨.push, 10, none, .app 1 1 (.int .u8 (0)) (.s 3) (.s 0)⟩,
    ⟨.var 0, 0, none, .mov (.s 0)⟩])
 (.seq (.seq (.region false [
     ⟨.var 3, 5, none, .mov (.c (.int .i64 (0)))⟩])
  (.block 0 (.loop ir46_k0 ir46_o0 ir46_r0 ir46_b0)))
 (.seq (.region false [
    ⟨.push, 31, none, .mov (.v 0)⟩,
    ⟨.var 2, 4, none, .mov (.s 0)⟩])
 (.ret)))), [.t 2]⟩
noncomputable def t_spec_l25PutNames : List (Nat × Ctr) := [(47, c_spec_l25Number)]
theorem lk_spec_l25PutNames_47 : look t_spec_l25PutNames 47 = some c_spec_l25Number := rfl
noncomputable def c_spec_l25PutNames : Ctr := mkF t_spec_l25PutNames ir46 [.mov, .bor]
theorem s_spec_l25PutNames : Sound Try.prog 46 c_spec_l25PutNames := mkF_sound _ rfl (snd_cons s_spec_l25Number snd_nil) (by kernel_rfl : chkFn Try.prog 46 ir46 ir46_v = true)
theorem M_spec_l25PutNames : c_spec_l25PutNames.modes = [.mov, .bor] := rfl
theorem Fl_spec_l25PutNames : c_spec_l25PutNames.flat = true := rfl
attribute [go_sem] M_spec_l25PutNames Fl_spec_l25PutNames
attribute [go_sem] lk_spec_l25PutNames_47
def E_spec_l25PutNames_l1 (names : List (List UInt8)) : ((List UInt8) × Int) → St
  | (out, i) => ⟨[.own 31, .sl 1 (List.map AV.str names), .any, .int .i64 i], [], [(31, ⟨1, List.map byteAV out⟩)], true⟩
def R_spec_l25PutNames_l1 (names : List (List UInt8)) (y : (List UInt8)) : Res := (.exit 0, ⟨[.own 31, .any, .any, .any], [], [(31, ⟨1, List.map byteAV y⟩)], true⟩)
theorem spec_l25PutNames_l1_ex {names : List (List UInt8)} {sgm_ : (List UInt8) × Int} {rho_ : (List UInt8)} (h : whileE (spec_l25PutNames_l1 names) sgm_ = some rho_) : ∃ L0, ∀ L, L0 ≤ L → iter (exec (look t_spec_l25PutNames) L ir46_b0) ir46_k0 ir46_o0 ir46_r0 L (E_spec_l25PutNames_l1 names sgm_) = R_spec_l25PutNames_l1 names rho_ := by
  refine loop_ex (E := E_spec_l25PutNames_l1 names) (R := R_spec_l25PutNames_l1 names) (fun y => by first | (intro c; cases c) | (rcases y with y | y <;> (intro c; cases c)) | (rcases y with y | y | y <;> (intro c; cases c))) ?_ h
  clear h
  rintro ⟨out, i⟩ o_ h
  dsimp only [spec_l25PutNames_l1] at h
  rcases it_some h with ⟨hk3, h⟩ | ⟨hk3, h⟩
  · try simp only [go_sem, n1, n2, n3, n4] at hk3
    all_goals
    obtain ⟨hk4, h⟩ := ck_some h
    have lhk4 := ix_lt hk4
    have xhk4 := getD_mapD AV.str names lhk4
    try simp only [go_sem] at lhk4
    try simp only [go_sem] at xhk4
    try simp only [go_sem, n1, n2, n3, n4, hk3] at hk4
    all_goals
    obtain ⟨y_5, hk5, h⟩ := bd_some h
    have fhk5 := Fs_spec_l25Number hk5
    try simp only [go_sem, hk3, hk4] at fhk5
    obtain ⟨hk6, h⟩ := ck_some h
    try simp only [go_sem, n1, n2, n3, n4, hk3, hk4] at hk6
    all_goals
    obtain ⟨hk7, h⟩ := ck_some h
    try simp only [go_sem, n1, n2, n3, n4, hk3, hk4, hk6] at hk7
    all_goals
    obtain rfl := so_some h
    refine ⟨0, fun L hL => ?_⟩
    simp only [go_sem, ir46, E_spec_l25PutNames_l1, R_spec_l25PutNames_l1, ir46_b0, ir46_k0, ir46_o0, ir46_r0, hk3, hk4, lhk4, xhk4, fhk5, hk6, hk7]
  · try simp only [go_sem, n1, n2, n3, n4] at hk3
    all_goals
    obtain rfl := so_some h
    refine ⟨0, fun L hL => ?_⟩
    simp only [go_sem, ir46, E_spec_l25PutNames_l1, R_spec_l25PutNames_l1, ir46_b0, ir46_k0, ir46_o0, ir46_r0, hk3]

theorem Fs_spec_l25PutNames {out : List UInt8} {names : List (List UInt8)} {y_ : (List UInt8)} (h : spec_l25PutNames out names = some y_) : c_spec_l25PutNames.F [.fresh 1 (List.map byteAV out), .sl 1 (List.map AV.str names)] = ⟨true, .fresh 1 (List.map byteAV y_), [.any, .any]⟩ := by
  refine mkF_E (by simp only [flatA, flatB, flat1, List.all_cons, List.all_nil, Bool.and_self, flatE_map (f := byteAV) (fun _ => rfl)]) ?_
  dsimp only [spec_l25PutNames] at h
  obtain ⟨y_1, hk1, h⟩ := bd_some h
  have fhk1 := Fs_spec_l25Number hk1
  try simp only [go_sem] at fhk1
  obtain ⟨hk2, h⟩ := ck_some h
  try simp only [go_sem, n1, n2, n3, n4] at hk2
  all_goals
  obtain ⟨y_8, hk8, h⟩ := bd_some h
  obtain ⟨Lhk8, ehk8⟩ := spec_l25PutNames_l1_ex hk8
  obtain rfl := so_some h
  refine ⟨Lhk8, fun L hL => ?_⟩
  have ehk8 := ehk8 L (by omega)
  try simp only [go_sem, E_spec_l25PutNames_l1, R_spec_l25PutNames_l1, ir46_k0, ir46_o0, ir46_r0, hk2] at ehk8
  simp only [go_sem, ir46, E_spec_l25PutNames_l1, R_spec_l25PutNames_l1, ir46_k0, ir46_o0, ir46_r0, fhk1, hk2, ehk8]


def ir48_b0 : IR := .seq (.test false [
    ⟨.push, 6, none, .mov (.v 3)⟩,
    ⟨.push, 7, none, .mov (.v 0)⟩,
    ⟨.push, 8, none, .len false (.s 0)⟩,
    ⟨.push, 9, none, .bin false .lss (.s 2) (.s 0)⟩] (.s 0)
  (.skip)
  (.exit 0))
 (.seq (.block 1 (.test false [
     ⟨.push, 12, none, .mov (.v 0)⟩,
     ⟨.push, 13, none, .mov (.v 3)⟩,
     ⟨.push, 14, none, .ixAddr 1 (.s 1) (.s 0)⟩,
     ⟨.push, 15, none, .load false 1 (.s 0)⟩,
     ⟨.push, 16, none, .mov (.v 1)⟩,
     ⟨.push, 17, none, .bin false .eql (.s 1) (.s 0)⟩] (.s 0)
   (.seq (.region false [
       ⟨.push, 18, none, .mov (.v 3)⟩,
       ⟨.var 2, 4, none, .mov (.s 0)⟩])
    (.ret))
   (.skip)))
 (.region false [
   ⟨.push, 10, none, .mov (.v 3)⟩,
   ⟨.push, 11, none, .bin false .add (.s 0) (.c (.int .i64 (1)))⟩,
   ⟨.var 3, 5, none, .mov (.s 0)⟩]))
def ir48_k0 : List Bool := [true, true, false, true]
def ir48_o0 : List Bool := [false, false, false, false]
def ir48_r0 : List Bool := [false, false, true, false]
def ir48_v : List Nat := [0, 1, 4, 5]
def ir48 : AFn := ⟨2, 4, .seq (.region false [
    ⟨.var 2, 4, none, .mov (.c (.int .i64 (0)))⟩])
 (.seq (.seq (.region false [
     ⟨.var 3, 5, none, .mov (.c (.int .i64 (0)))⟩])
  (.block 0 (.loop ir48_k0 ir48_o0 ir48_r0 ir48_b0)))
 (.seq (.region false [
    ⟨.var 2, 4, none, .mov (.c (.int .i64 (-1)))⟩])
 (.ret))), [.t 2]⟩
noncomputable def t_spec_l25Find : List (Nat × Ctr) := []
noncomputable def c_spec_l25Find : Ctr := mkF t_spec_l25Find ir48 [.bor, .bor]
theorem s_spec_l25Find : Sound Try.prog 48 c_spec_l25Find := mkF_sound _ rfl snd_nil (by kernel_rfl : chkFn Try.prog 48 ir48 ir48_v = true)
theorem M_spec_l25Find : c_spec_l25Find.modes = [.bor, .bor] := rfl
theorem Fl_spec_l25Find : c_spec_l25Find.flat = true := rfl
attribute [go_sem] M_spec_l25Find Fl_spec_l25Find
def E_spec_l25Find_l1 (list : List (List UInt8)) (name : List UInt8) : Int → St
  | i => ⟨[.sl 1 (List.map AV.str list), .str name, .any, .int .i64 i], [], [], true⟩
def R_spec_l25Find_l1 (list : List (List UInt8)) (name : List UInt8) : (Unit ⊕ Int) → Res
  | .inl y => (.exit 0, ⟨[.any, .any, .any, .any], [], [], true⟩)
  | .inr y => (.ret, ⟨[.any, .any, .int .i64 y, .any], [], [], true⟩)
theorem spec_l25Find_l1_ex {list : List (List UInt8)} {name : List UInt8} {sgm_ : Int} {rho_ : Unit ⊕ Int} (h : whileE (spec_l25Find_l1 list name) sgm_ = some rho_) : ∃ L0, ∀ L, L0 ≤ L → iter (exec (look t_spec_l25Find) L ir48_b0) ir48_k0 ir48_o0 ir48_r0 L (E_spec_l25Find_l1 list name sgm_) = R_spec_l25Find_l1 list name rho_ := by
  refine loop_ex (E := E_spec_l25Find_l1 list name) (R := R_spec_l25Find_l1 list name) (fun y => by first | (intro c; cases c) | (rcases y with y | y <;> (intro c; cases c)) | (rcases y with y | y | y <;> (intro c; cases c))) ?_ h
  clear h
  intro i o_ h
  dsimp only [spec_l25Find_l1] at h
  rcases it_some h with ⟨hk1, h⟩ | ⟨hk1, h⟩
  · try simp only [go_sem, n1, n2, n3, n4] at hk1
    all_goals
    obtain ⟨hk2, h⟩ := ck_some h
    have lhk2 := ix_lt hk2
    have xhk2 := getD_mapD AV.str list lhk2
    try simp only [go_sem] at lhk2
    try simp only [go_sem] at xhk2
    try simp only [go_sem, n1, n2, n3, n4, hk1] at hk2
    all_goals
    rcases it_some h with ⟨hk3, h⟩ | ⟨hk3, h⟩
    · try simp only [go_sem, n1, n2, n3, n4, hk1, hk2] at hk3
      all_goals
      obtain rfl := so_some h
      refine ⟨0, fun L hL => ?_⟩
      simp only [go_sem, ir48, E_spec_l25Find_l1, R_spec_l25Find_l1, ir48_b0, ir48_k0, ir48_o0, ir48_r0, hk1, hk2, lhk2, xhk2, hk3]
    · try simp only [go_sem, n1, n2, n3, n4, hk1, hk2] at hk3
      all_goals
      obtain rfl := so_some h
      refine ⟨0, fun L hL => ?_⟩
      simp only [go_sem, ir48, E_spec_l25Find_l1, R_spec_l25Find_l1, ir48_b0, ir48_k0, ir48_o0, ir48_r0, hk1, hk2, lhk2, xhk2, hk3]
  · try simp only [go_sem, n1, n2, n3, n4] at hk1
    all_goals
    obtain rfl := so_some h
    refine ⟨0, fun L hL => ?_⟩
    simp only [go_sem, ir48, E_spec_l25Find_l1, R_spec_l25Find_l1, ir48_b0, ir48_k0, ir48_o0, ir48_r0, hk1]

theorem Fs_spec_l25Find {list : List (List UInt8)} {name : List UInt8} {y_ : Int} (h : spec_l25Find list name = some y_) : c_spec_l25Find.F [.sl 1 (List.map AV.str list), .str name] = ⟨true, .int .i64 y_, [.any, .any]⟩ := by
  refine mkF_E rfl ?_
  dsimp only [spec_l25Find] at h
  obtain ⟨y_4, hk4, h⟩ := bd_some h
  obtain ⟨Lhk4, ehk4⟩ := spec_l25Find_l1_ex hk4
  rcases y_4 with y_4a | y_4b
  · dsimp only at h
    obtain rfl := so_some h
    refine ⟨Lhk4, fun L hL => ?_⟩
    have ehk4 := ehk4 L (by omega)
    try simp only [go_sem, E_spec_l25Find_l1, R_spec_l25Find_l1, ir48_k0, ir48_o0, ir48_r0] at ehk4
    simp only [go_sem, ir48, E_spec_l25Find_l1, R_spec_l25Find_l1, ir48_k0, ir48_o0, ir48_r0, ehk4]
  · dsimp only at h
    obtain rfl := so_some h
    refine ⟨Lhk4, fun L hL => ?_⟩
    have ehk4 := ehk4 L (by omega)
    try simp only [go_sem, E_spec_l25Find_l1, R_spec_l25Find_l1, ir48_k0, ir48_o0, ir48_r0] at ehk4
    simp only [go_sem, ir48, E_spec_l25Find_l1, R_spec_l25Find_l1, ir48_k0, ir48_o0, ir48_r0, ehk4]


def ir49_v : List Nat := [0, 2]
def ir49 : AFn := ⟨1, 2, .seq (.region false [
    ⟨.var 1, 2, none, .mov (.c (.int .i64 (0)))⟩])
 (.seq (.test false [
    ⟨.push, 3, none, .mov (.v 0)⟩,
    ⟨.push, 4, none, .bin false .lss (.s 0) (.c (.int .i64 (0)))⟩] (.s 0)
  (.seq (.region false [
      ⟨.push, 5, none, .mov (.v 0)⟩,
      ⟨.push, 6, none, .bin false .mul (.c (.int .i64 (-2))) (.s 0)⟩,
      ⟨.push, 7, none, .bin false .sub (.s 0) (.c (.int .i64 (1)))⟩,
      ⟨.var 1, 2, none, .mov (.s 0)⟩])
   (.ret))
  (.skip))
 (.seq (.region false [
    ⟨.push, 8, none, .mov (.v 0)⟩,
    ⟨.push, 9, none, .bin false .mul (.c (.int .i64 (2))) (.s 0)⟩,
    ⟨.var 1, 2, none, .mov (.s 0)⟩])
 (.ret))), [.t 1]⟩
noncomputable def t_spec_l25Fold : List (Nat × Ctr) := []
noncomputable def c_spec_l25Fold : Ctr := mkF t_spec_l25Fold ir49 [.bor]
theorem s_spec_l25Fold : Sound Try.prog 49 c_spec_l25Fold := mkF_sound _ rfl snd_nil (by kernel_rfl : chkFn Try.prog 49 ir49 ir49_v = true)
theorem M_spec_l25Fold : c_spec_l25Fold.modes = [.bor] := rfl
theorem Fl_spec_l25Fold : c_spec_l25Fold.flat = true := rfl
attribute [go_sem] M_spec_l25Fold Fl_spec_l25Fold
theorem Fs_spec_l25Fold {n : Int} {y_ : Int} (h : spec_l25Fold n = some y_) : c_spec_l25Fold.F [.int .i64 n] = ⟨true, .int .i64 y_, [.any]⟩ := by
  refine mkF_E rfl ?_
  dsimp only [spec_l25Fold] at h
  rcases it_some h with ⟨hk1, h⟩ | ⟨hk1, h⟩
  · try simp only [go_sem, n1, n2, n3, n4] at hk1
    all_goals
    obtain rfl := so_some h
    refine ⟨0, fun L hL => ?_⟩
    simp only [go_sem, ir49, hk1]
  · try simp only [go_sem, n1, n2, n3, n4] at hk1
    all_goals
    obtain rfl := so_some h
    refine ⟨0, fun L hL => ?_⟩
    simp only [go_sem, ir49, hk1]


def ir58_b0 : IR := .seq (.test false [
    ⟨.push, 6, none, .mov (.v 4)⟩,
    ⟨.push, 7, none, .mov (.v 0)⟩,
    ⟨.push, 8, none, .len false (.s 0)⟩,
    ⟨.push, 9, none, .bin false .lss (.s 2) (.s 0)⟩] (.s 0)
  (.skip)
  (.exit 0))
 (.seq (.block 1 (.seq (.region false [
      ⟨.push, 12, none, .mov (.v 2)⟩,
      ⟨.push, 13, none, .mov (.v 0)⟩,
      ⟨.push, 14, none, .mov (.v 4)⟩,
      ⟨.push, 15, none, .ixAddr 1 (.s 1) (.s 0)⟩,
      ⟨.push, 16, none, .load false 1 (.s 0)⟩,
      ⟨.push, 17, none, .conv .i64 (.s 0)⟩,
      ⟨.push, 18, none, .bin false .add (.s 5) (.s 0)⟩,
      ⟨.push, 19, none, .bin false .rem (.s 0) (.c (.int .i64 (251)))⟩,
      ⟨.var 2, 3, none, .mov (.s 0)⟩])
   (.region false [
     ⟨.push, 20, none, .mov (.v 3)⟩,
     ⟨.push, 21, none, .mov (.v 2)⟩,
     ⟨.push, 22, none, .bin false .add (.s 1) (.s 0)⟩,
     ⟨.push, 23, none, .bin false .rem (.s 0) (.c (.int .i64 (251)))⟩,
     ⟨.var 3, 4, none, .mov (.s 0)⟩])))
 (.region false [
   ⟨.push, 10, none, .mov (.v 4)⟩,
   ⟨.push, 11, none, .bin false .add (.s 0) (.c (.int .i64 (1)))⟩,
   ⟨.var 4, 5, none, .mov (.s 0)⟩]))
def ir58_k0 : List Bool := [true, false, true, true, true]
def ir58_o0 : List Bool := [false, false, true, true, false]
def ir58_r0 : List Bool := [false, true, false, false, false]
def ir58_v : List Nat := [0, 2, 3, 4, 5]
def ir58 : AFn := ⟨1, 5, .seq (.region false [
    ⟨.var 1, 2, none, .mov (.c (.int .i64 (0)))⟩])
 (.seq (.region false [
    ⟨.var 2, 3, none, .mov (.c (.int .i64 (1)))⟩])
 (.seq (.region false [
    ⟨.var 3, 4, none, .mov (.c (.int .i64 (0)))⟩])
 (.seq (.seq (.region false [
     ⟨.var 4, 5, none, .mov (.c (.int .i64 (0)))⟩])
  (.block 0 (.loop ir58_k0 ir58_o0 ir58_r0 ir58_b0)))
 (.seq (.region false [
    ⟨.push, 24, none, .mov (.v 3)⟩,
    ⟨.push, 25, none, .bin false .mul (.c (.int .i64 (251))) (.s 0)⟩,
    ⟨.push, 26, none, .mov (.v 2)⟩,
    ⟨.push, 27, none, .bin false .add (.s 1) (.s 0)⟩,
    ⟨.var 1, 2, none, .mov (.s 0)⟩])
 (.ret))))), [.t 1]⟩
noncomputable def t_spec_l25Sum : List (Nat × Ctr) := []
noncomputable def c_spec_l25Sum : Ctr := mkF t_spec_l25Sum ir58 [.bor]
theorem s_spec_l25Sum : Sound Try.prog 58 c_spec_l25Sum := mkF_sound _ rfl snd_nil (by kernel_rfl : chkFn Try.prog 58 ir58 ir58_v = true)
theorem M_spec_l25Sum : c_spec_l25Sum.modes = [.bor] := rfl
theorem Fl_spec_l25Sum : c_spec_l25Sum.flat = true := rfl
attribute [go_sem] M_spec_l25Sum Fl_spec_l25Sum
def E_spec_l25Sum_l1 (b : List UInt8) : (Int × Int × Int) → St
  | (sum, all, i) => ⟨[.sl 1 (List.map byteAV b), .any, .int .i64 sum, .int .i64 all, .int .i64 i], [], [], true⟩
def R_spec_l25Sum_l1 (b : List UInt8) (y : Int × Int) : Res := (.exit 0, ⟨[.any, .any, .int .i64 y.1, .int .i64 y.2, .any], [], [], true⟩)
theorem spec_l25Sum_l1_ex {b : List UInt8} {sgm_ : Int × Int × Int} {rho_ : Int × Int} (h : whileE (spec_l25Sum_l1 b) sgm_ = some rho_) : ∃ L0, ∀ L, L0 ≤ L → iter (exec (look t_spec_l25Sum) L ir58_b0) ir58_k0 ir58_o0 ir58_r0 L (E_spec_l25Sum_l1 b sgm_) = R_spec_l25Sum_l1 b rho_ := by
  refine loop_ex (E := E_spec_l25Sum_l1 b) (R := R_spec_l25Sum_l1 b) (fun y => by first | (intro c; cases c) | (rcases y with y | y <;> (intro c; cases c)) | (rcases y with y | y | y <;> (intro c; cases c))) ?_ h
  clear h
  rintro ⟨sum, all, i⟩ o_ h
  dsimp only [spec_l25Sum_l1] at h
  rcases it_some h with ⟨hk1, h⟩ | ⟨hk1, h⟩
  · try simp only [go_sem, n1, n2, n3, n4] at hk1
    all_goals
    obtain ⟨hk2, h⟩ := ck_some h
    have lhk2 := ix_lt hk2
    have xhk2 := getD_mapD byteAV b lhk2
    try simp only [go_sem] at lhk2
    try simp only [go_sem] at xhk2
    try simp only [go_sem, n1, n2, n3, n4, hk1] at hk2
    all_goals
    obtain ⟨hk3, h⟩ := ck_some h
    try simp only [go_sem, n1, n2, n3, n4, hk1, hk2] at hk3
    all_goals
    obtain rfl := so_some h
    refine ⟨0, fun L hL => ?_⟩
    simp only [go_sem, ir58, E_spec_l25Sum_l1, R_spec_l25Sum_l1, ir58_b0, ir58_k0, ir58_o0, ir58_r0, hk1, hk2, lhk2, xhk2, hk3]
  · try simp only [go_sem, n1, n2, n3, n4] at hk1
    all_goals
    obtain rfl := so_some h
    refine ⟨0, fun L hL => ?_⟩
    simp only [go_sem, ir58, E_spec_l25Sum_l1, R_spec_l25Sum_l1, ir58_b0, ir58_k0, ir58_o0, ir58_r0, hk1]

theorem Fs_spec_l25Sum {b : List UInt8} {y_ : Int} (h : spec_l25Sum b = some y_) : c_spec_l25Sum.F [.sl 1 (List.map byteAV b)] = ⟨true, .int .i64 y_, [.any]⟩ := by
  refine mkF_E rfl ?_
  dsimp only [spec_l25Sum] at h
  obtain ⟨y_4, hk4, h⟩ := bd_some h
  obtain ⟨Lhk4, ehk4⟩ := spec_l25Sum_l1_ex hk4
  obtain rfl := so_some h
  refine ⟨Lhk4, fun L hL => ?_⟩
  have ehk4 := ehk4 L (by omega)
  try simp only [go_sem, E_spec_l25Sum_l1, R_spec_l25Sum_l1, ir58_k0, ir58_o0, ir58_r0] at ehk4
  simp only [go_sem, ir58, E_spec_l25Sum_l1, R_spec_l25Sum_l1, ir58_k0, ir58_o0, ir58_r0, ehk4]


def ir50_v : List Nat := [0, 2, 3]
def ir50 : AFn := ⟨1, 3, .seq (.region false [
    ⟨.var 1, 2, none, .newnil 1⟩])
 (.seq (.region false [
    ⟨.push, 4, none, .mov (.v 0)⟩,
    ⟨.push, 5, none, .call 58 [(.s 0)]⟩,
    ⟨.var 2, 3, none, .mov (.s 0)⟩])
 (.seq (.region false [
    ⟨.push, 6, none, .mov (.v 0)⟩,
    ⟨.push, 7, none, .mov (.v 2)⟩,
    ⟨.push, 8, none, .bin false .quo (.s 0) (.c (.int .i64 (256)))⟩,
    ⟨.push, 9, none, .conv .u8 (.s 0)⟩,
    ⟨.push, 10, none, .mkSl 1 (.int .u8 (0)) 1 [(0, (.s 0))]⟩,
    ⟨.push, 11, none, .app 1 1 (.int .u8 (0)) (.s 4) (.s 0)⟩,
    ⟨.var 0, 0, none, .mov (.s 0)⟩])
 (.seq (.region false [
    ⟨.push, 12, none, .mov (.v 0)⟩,
    ⟨.push, 13, none, .mov (.v 2)⟩,
    ⟨.push, 14, none, .bin false .rem (.s 0) (.c (.int .i64 (256)))⟩,
    ⟨.push, 15, none, .conv .u8 (.s 0)⟩,
    ⟨.push, 16, none, .mkSl 1 (.int .u8 (0)) 1 [(0, (.s 0))]⟩,
    ⟨.push, 17, none, .app 1 1 (.int .u8 (0)) (.s 4) (.s 0)⟩,
    ⟨.var 1, 2, none, .mov (.s 0)⟩])
 (.ret)))), [.t 1]⟩
noncomputable def t_spec_l25Close : List (Nat × Ctr) := [(58, c_spec_l25Sum)]
theorem lk_spec_l25Close_58 : look t_spec_l25Close 58 = some c_spec_l25Sum := rfl
noncomputable def c_spec_l25Close : Ctr := mkF t_spec_l25Close ir50 [.mov]
theorem s_spec_l25Close : Sound Try.prog 50 c_spec_l25Close := mkF_sound _ rfl (snd_cons s_spec_l25Sum snd_nil) (by kernel_rfl : chkFn Try.prog 50 ir50 ir50_v = true)
theorem M_spec_l25Close : c_spec_l25Close.modes = [.mov] := rfl
theorem Fl_spec_l25Close : c_spec_l25Close.flat = true := rfl
attribute [go_sem] M_spec_l25Close Fl_spec_l25Close
attribute [go_sem] lk_spec_l25Close_58
theorem Fs_spec_l25Close {out : List UInt8} {y_ : (List UInt8)} (h : spec_l25Close out = some y_) : c_spec_l25Close.F [.fresh 1 (List.map byteAV out)] = ⟨true, .fresh 1 (List.map byteAV y_), [.any]⟩ := by
  refine mkF_E (by simp only [flatA, flatB, flat1, List.all_cons, List.all_nil, Bool.and_self, flatE_map (f := byteAV) (fun _ => rfl)]) ?_
  dsimp only [spec_l25Close] at h
  obtain ⟨y_1, hk1, h⟩ := bd_some h
  have fhk1 := Fs_spec_l25Sum hk1
  try simp only [go_sem] at fhk1
  obtain ⟨hk2, h⟩ := ck_some h
  try simp only [go_sem, n1, n2, n3, n4] at hk2
  all_goals
  obtain ⟨hk3, h⟩ := ck_some h
  try simp only [go_sem, n1, n2, n3, n4, hk2] at hk3
  all_goals
  obtain ⟨hk4, h⟩ := ck_some h
  try simp only [go_sem, n1, n2, n3, n4, hk2, hk3] at hk4
  all_goals
  obtain rfl := so_some h
  refine ⟨0, fun L hL => ?_⟩
  simp only [go_sem, ir50, fhk1, hk2, hk3, hk4]


def ir20_b0 : IR := .seq (.test false [
    ⟨.push, 26, none, .mov (.v 7)⟩,
    ⟨.push, 27, none, .mov (.v 0)⟩,
    ⟨.push, 28, none, .len false (.s 0)⟩,
    ⟨.push, 29, none, .bin false .lss (.s 2) (.s 0)⟩] (.s 0)
  (.skip)
  (.exit 0))
 (.seq (.block 1 (.seq (.region false [
      ⟨.push, 32, none, .mov (.v 4)⟩,
      ⟨.push, 33, none, .mov (.v 0)⟩,
      ⟨.push, 34, none, .mov (.v 7)⟩,
      ⟨.push, 35, none, .ixAddr 5 (.s 1) (.s 0)⟩,
      ⟨.push, 36, none, .fldAddr 0 (.s 0)⟩,
      ⟨.push, 37, none, .load false 1 (.s 0)⟩,
      ⟨.push, 38, none, .mov (.v 5)⟩,
      ⟨.push, 39, none, .bin false .sub (.s 1) (.s 0)⟩,
      ⟨.push, 40, none, .call 47 [(.s 0)]⟩,
      ⟨.push, 41, none, .app 1 1 (.int .u8 (0)) (.s 8) (.s 0)⟩,
      ⟨.var 4, 5, none, .mov (.s 0)⟩])
   (.seq (.region false [
      ⟨.push, 42, none, .mov (.v 4)⟩,
      ⟨.push, 43, none, .mov (.v 2)⟩,
      ⟨.push, 44, none, .mov (.v 0)⟩,
      ⟨.push, 45, none, .mov (.v 7)⟩,
      ⟨.push, 46, none, .ixAddr 5 (.s 1) (.s 0)⟩,
      ⟨.push, 47, none, .fldAddr 1 (.s 0)⟩,
      ⟨.push, 48, none, .load false 1 (.s 0)⟩,
      ⟨.push, 49, none, .call 48 [(.s 5), (.s 0)]⟩,
      ⟨.push, 50, none, .call 47 [(.s 0)]⟩,
      ⟨.push, 51, none, .app 1 1 (.int .u8 (0)) (.s 8) (.s 0)⟩,
      ⟨.var 4, 5, none, .mov (.s 0)⟩])
   (.seq (.region false [
      ⟨.push, 52, none, .mov (.v 3)⟩,
      ⟨.push, 53, none, .mov (.v 0)⟩,
      ⟨.push, 54, none, .mov (.v 7)⟩,
      ⟨.push, 55, none, .ixAddr 5 (.s 1) (.s 0)⟩,
      ⟨.push, 56, none, .fldAddr 2 (.s 0)⟩,
      ⟨.push, 57, none, .load false 1 (.s 0)⟩,
      ⟨.push, 58, none, .call 48 [(.s 5), (.s 0)]⟩,
      ⟨.push, 59, none, .bin false .mul (.c (.int .i64 (2))) (.s 0)⟩,
      ⟨.var 8, 9, none, .mov (.s 0)⟩])
   (.seq (.test false [
      ⟨.push, 60, none, .mov (.v 0)⟩,
      ⟨.push, 61, none, .mov (.v 7)⟩,
      ⟨.push, 62, none, .ixAddr 5 (.s 1) (.s 0)⟩,
      ⟨.push, 63, none, .fldAddr 4 (.s 0)⟩,
      ⟨.push, 64, none, .load false 1 (.s 0)⟩] (.s 0)
    (.region false [
       ⟨.push, 65, none, .mov (.v 8)⟩,
       ⟨.push, 66, none, .bin false .add (.s 0) (.c (.int .i64 (1)))⟩,
       ⟨.var 8, 9, none, .mov (.s 0)⟩])
    (.skip))
   (.seq (.region false [
      ⟨.push, 67, none, .mov (.v 4)⟩,
      ⟨.push, 68, none, .mov (.v 8)⟩,
      ⟨.push, 69, none, .call 47 [(.s 0)]⟩,
      ⟨.push, 70, none, .app 1 1 (.int .u8 (0)) (.s 2) (.s 0)⟩,
      ⟨.var 4, 5, none, .mov (.s 0)⟩])
   (.seq (.region false [
      ⟨.push, 71, none, .mov (.v 4)⟩,
      ⟨.push, 72, none, .mov (.v 0)⟩,
      ⟨.push, 73, none, .mov (.v 7)⟩,
      ⟨.push, 74, none, .ixAddr 5 (.s 1) (.s 0)⟩,
      ⟨.push, 75, none, .fldAddr 3 (.s 0)⟩,
      ⟨.push, 76, none, .load false 1 (.s 0)⟩,
      ⟨.push, 77, none, .mov (.v 6)⟩,
      ⟨.push, 78, none, .bin false .sub (.s 1) (.s 0)⟩,
      ⟨.push, 79, none, .call 49 [(.s 0)]⟩,
      ⟨.push, 80, none, .call 47 [(.s 0)]⟩,
      ⟨.push, 81, none, .app 1 1 (.int .u8 (0)) (.s 9) (.s 0)⟩,
      ⟨.var 4, 5, none, .mov (.s 0)⟩])
   (.seq (.region false [
      ⟨.push, 82, none, .mov (.v 0)⟩,
      ⟨.push, 83, none, .mov (.v 7)⟩,
      ⟨.push, 84, none, .ixAddr 5 (.s 1) (.s 0)⟩,
      ⟨.push, 85, none, .fldAddr 0 (.s 0)⟩,
      ⟨.push, 86, none, .load false 1 (.s 0)⟩,
      ⟨.var 5, 6, none, .mov (.s 0)⟩])
   (.region false [
     ⟨.push, 87, none, .mov (.v 0)⟩,
     ⟨.push, 88, none, .mov (.v 7)⟩,
     ⟨.push, 89, none, .ixAddr 5 (.s 1) (.s 0)⟩,
     ⟨.push, 90, none, .fldAddr 3 (.s 0)⟩,
     ⟨.push, 91, none, .load false 1 (.s 0)⟩,
     ⟨.var 6, 7, none, .mov (.s 0)⟩])))))))))
 (.region false [
   ⟨.push, 30, none, .mov (.v 7)⟩,
   ⟨.push, 31, none, .bin false .add (.s 0) (.c (.int .i64 (1)))⟩,
   ⟨.var 7, 8, none, .mov (.s 0)⟩]))
def ir20_k0 : List Bool := [true, false, true, true, true, true, true, true, false]
def ir20_o0 : List Bool := [false, false, false, false, true, false, false, false, false]
def ir20_r0 : List Bool := [false, true, false, false, false, false, false, false, false]
def ir20_v : List Nat := [0, 2, 3, 4, 5, 6, 7, 8, 9]
def ir20 : AFn := ⟨1, 9, .seq (.region false [
    ⟨.var 1, 2, none, .newnil 1⟩])
 (.seq (.region false [
    ⟨.push, 10, none, .mov (.v 0)⟩,
    ⟨.push, 11, none, .call 45 [(.s 0), (.c (.bool true))]⟩,
    ⟨.var 2, 3, none, .mov (.s 0)⟩])
 (.seq (.region false [
    ⟨.push, 12, none, .mov (.v 0)⟩,
    ⟨.push, 13, none, .call 45 [(.s 0), (.c (.bool false))]⟩,
    ⟨.var 3, 4, none, .mov (.s 0)⟩])
 (.seq (.region false [
    ⟨.push, 14, none, .mkSl 1 (.int .u8 (0)) 1 [(0, (.c (.int .u8 (69))))]⟩,
    ⟨.var 4, 5, none, .mov (.s 0)⟩])
 (.seq (.region false [
    ⟨.push, 15, none, .mov (.v 4)⟩,
    ⟨.push, 16, none, .mov (.v 2)⟩,
    ⟨.push, 17, none, .call 46 [(.s 1), (.s 0)]⟩,
    ⟨.var 4, 5, none, .mov (.s 0)⟩])
 (.seq (.region false [
    ⟨.push, 18, none, .mov (.v 4)⟩,
    ⟨.push, 19, none, .mov (.v 3)⟩,
    ⟨.push, 20, none, .call 46 [(.s 1), (.s 0)]⟩,
    ⟨.var 4, 5, none, .mov (.s 0)⟩])
 (.seq (.region false [
    ⟨.push, 21, none, .mov (.v 4)⟩,
    ⟨.push, 22, none, .mov (.v 0)⟩,
    ⟨.push, 23, none, .len false (.s 0)⟩,
    ⟨.push, 24, none, .call 47 [(.s 0)]⟩,
    ⟨.push, 25, none, .app 1 1 (.int .u8 (0)) (.s 3) (.s 0)⟩,
    ⟨.var 4, 5, none, .mov (.s 0)⟩])
 (.seq (.region false [
    ⟨.var 5, 6, none, .mov (.c (.int .i64 (0)))⟩])
 (.seq (.region false [
    ⟨.var 6, 7, none, .mov (.c (.int .i64 (0)))⟩])
 (.seq (.seq (.region false [
     ⟨.var 7, 8, none, .mov (.c (.int .i64 (0)))⟩])
  (.block 0 (.loop ir20_k0 ir20_o0 ir20_r0 ir20_b0)))
 (.seq (.region false [
    ⟨.push, 92, none, .mov (.v 4)⟩,
    ⟨.push, 93, none, .call 50 [(.s 0)]⟩,
    ⟨.var 1, 2, none, .mov (.s 0)⟩])
 (.ret))))))))))), [.t 1]⟩
noncomputable def t_spec_l25Estimates : List (Nat × Ctr) := [(45, c_spec_l25Names), (46, c_spec_l25PutNames), (47, c_spec_l25Number), (48, c_spec_l25Find), (49, c_spec_l25Fold), (50, c_spec_l25Close)]
theorem lk_spec_l25Estimates_45 : look t_spec_l25Estimates 45 = some c_spec_l25Names := rfl
theorem lk_spec_l25Estimates_46 : look t_spec_l25Estimates 46 = some c_spec_l25PutNames := rfl
theorem lk_spec_l25Estimates_47 : look t_spec_l25Estimates 47 = some c_spec_l25Number := rfl
theorem lk_spec_l25Estimates_48 : look t_spec_l25Estimates 48 = some c_spec_l25Find := rfl
theorem lk_spec_l25Estimates_49 : look t_spec_l25Estimates 49 = some c_spec_l25Fold := rfl
theorem lk_spec_l25Estimates_50 : look t_spec_l25Estimates 50 = some c_spec_l25Close := rfl
noncomputable def c_spec_l25Estimates : Ctr := mkF t_spec_l25Estimates ir20 [.bor]
theorem s_spec_l25Estimates : Sound Try.prog 20 c_spec_l25Estimates := mkF_sound _ rfl (snd_cons s_spec_l25Names (snd_cons s_spec_l25PutNames (snd_cons s_spec_l25Number (snd_cons s_spec_l25Find (snd_cons s_spec_l25Fold (snd_cons s_spec_l25Close snd_nil)))))) (by kernel_rfl : chkFn Try.prog 20 ir20 ir20_v = true)
theorem M_spec_l25Estimates : c_spec_l25Estimates.modes = [.bor] := rfl
theorem Fl_spec_l25Estimates : c_spec_l25Estimates.flat = true := rfl
attribute [go_sem] M_spec_l25Estimates Fl_spec_l25Estimates
attribute [go_sem] lk_spec_l25Estimates_45 lk_spec_l25Estimates_46 lk_spec_l25Estimates_47 lk_spec_l25Estimates_48 lk_spec_l25Estimates_49 lk_spec_l25Estimates_50
def E_spec_l25Estimates_l1 (list : List Estimate) (stars : List (List UInt8)) (people : List (List UInt8)) : ((List UInt8) × Int × Int × Int) → St
  | (out, time, mag, i) => ⟨[.sl 5 (List.map Estimate_av list), .any, .sl 1 (List.map AV.str stars), .sl 1 (List.map AV.str people), .own 3200000, .int .i64 time, .int .i64 mag, .int .i64 i, .any], [], [(3200000, ⟨1, List.map byteAV out⟩)], true⟩
def R_spec_l25Estimates_l1 (list : List Estimate) (stars : List (List UInt8)) (people : List (List UInt8)) (y : (List UInt8)) : Res := (.exit 0, ⟨[.any, .any, .any, .any, .own 3200000, .any, .any, .any, .any], [], [(3200000, ⟨1, List.map byteAV y⟩)], true⟩)
theorem spec_l25Estimates_l1_ex {list : List Estimate} {stars : List (List UInt8)} {people : List (List UInt8)} {sgm_ : (List UInt8) × Int × Int × Int} {rho_ : (List UInt8)} (h : whileE (spec_l25Estimates_l1 list stars people) sgm_ = some rho_) : ∃ L0, ∀ L, L0 ≤ L → iter (exec (look t_spec_l25Estimates) L ir20_b0) ir20_k0 ir20_o0 ir20_r0 L (E_spec_l25Estimates_l1 list stars people sgm_) = R_spec_l25Estimates_l1 list stars people rho_ := by
  refine loop_ex (E := E_spec_l25Estimates_l1 list stars people) (R := R_spec_l25Estimates_l1 list stars people) (fun y => by first | (intro c; cases c) | (rcases y with y | y <;> (intro c; cases c)) | (rcases y with y | y | y <;> (intro c; cases c))) ?_ h
  clear h
  rintro ⟨out, time, mag, i⟩ o_ h
  dsimp only [spec_l25Estimates_l1] at h
  rcases it_some h with ⟨hk7, h⟩ | ⟨hk7, h⟩
  · try simp only [go_sem, n1, n2, n3, n4] at hk7
    all_goals
    obtain ⟨hk8, h⟩ := ck_some h
    have lhk8 := ix_lt hk8
    have xhk8 := getD_mapD Estimate_av list lhk8
    try simp only [go_sem] at lhk8
    try simp only [go_sem] at xhk8
    try simp only [go_sem, n1, n2, n3, n4, hk7] at hk8
    all_goals
    obtain ⟨y_9, hk9, h⟩ := bd_some h
    have fhk9 := Fs_spec_l25Number hk9
    try simp only [go_sem, hk7, hk8] at fhk9
    obtain ⟨hk10, h⟩ := ck_some h
    try simp only [go_sem, n1, n2, n3, n4, hk7, hk8] at hk10
    all_goals
    obtain ⟨y_11, hk11, h⟩ := bd_some h
    have fhk11 := Fs_spec_l25Find hk11
    try simp only [go_sem, hk7, hk8, hk10] at fhk11
    obtain ⟨y_12, hk12, h⟩ := bd_some h
    have fhk12 := Fs_spec_l25Number hk12
    try simp only [go_sem, hk7, hk8, hk10] at fhk12
    obtain ⟨hk13, h⟩ := ck_some h
    try simp only [go_sem, n1, n2, n3, n4, hk7, hk8, hk10] at hk13
    all_goals
    obtain ⟨y_14, hk14, h⟩ := bd_some h
    have fhk14 := Fs_spec_l25Find hk14
    try simp only [go_sem, hk7, hk8, hk10, hk13] at fhk14
    rcases it_some h with ⟨hk15, h⟩ | ⟨hk15, h⟩
    · try simp only [go_sem, n1, n2, n3, n4, hk7, hk8, hk10, hk13] at hk15
      all_goals
      obtain ⟨y_16, hk16, h⟩ := bd_some h
      have fhk16 := Fs_spec_l25Number hk16
      try simp only [go_sem, hk7, hk8, hk10, hk13, hk15] at fhk16
      obtain ⟨hk17, h⟩ := ck_some h
      try simp only [go_sem, n1, n2, n3, n4, hk7, hk8, hk10, hk13, hk15] at hk17
      all_goals
      obtain ⟨y_18, hk18, h⟩ := bd_some h
      have fhk18 := Fs_spec_l25Fold hk18
      try simp only [go_sem, hk7, hk8, hk10, hk13, hk15, hk17] at fhk18
      obtain ⟨y_19, hk19, h⟩ := bd_some h
      have fhk19 := Fs_spec_l25Number hk19
      try simp only [go_sem, hk7, hk8, hk10, hk13, hk15, hk17] at fhk19
      obtain ⟨hk20, h⟩ := ck_some h
      try simp only [go_sem, n1, n2, n3, n4, hk7, hk8, hk10, hk13, hk15, hk17] at hk20
      all_goals
      obtain rfl := so_some h
      refine ⟨0, fun L hL => ?_⟩
      simp only [go_sem, ir20, E_spec_l25Estimates_l1, R_spec_l25Estimates_l1, ir20_b0, ir20_k0, ir20_o0, ir20_r0, hk7, hk8, lhk8, xhk8, fhk9, hk10, fhk11, fhk12, hk13, fhk14, hk15, fhk16, hk17, fhk18, fhk19, hk20]
    · try simp only [go_sem, n1, n2, n3, n4, hk7, hk8, hk10, hk13] at hk15
      all_goals
      obtain ⟨y_21, hk21, h⟩ := bd_some h
      have fhk21 := Fs_spec_l25Number hk21
      try simp only [go_sem, hk7, hk8, hk10, hk13, hk15] at fhk21
      obtain ⟨hk22, h⟩ := ck_some h
      try simp only [go_sem, n1, n2, n3, n4, hk7, hk8, hk10, hk13, hk15] at hk22
      all_goals
      obtain ⟨y_23, hk23, h⟩ := bd_some h
      have fhk23 := Fs_spec_l25Fold hk23
      try simp only [go_sem, hk7, hk8, hk10, hk13, hk15, hk22] at fhk23
      obtain ⟨y_24, hk24, h⟩ := bd_some h
      have fhk24 := Fs_spec_l25Number hk24
      try simp only [go_sem, hk7, hk8, hk10, hk13, hk15, hk22] at fhk24
      obtain ⟨hk25, h⟩ := ck_some h
      try simp only [go_sem, n1, n2, n3, n4, hk7, hk8, hk10, hk13, hk15, hk22] at hk25
      all_goals
      obtain rfl := so_some h
      refine ⟨0, fun L hL => ?_⟩
      simp only [go_sem, ir20, E_spec_l25Estimates_l1, R_spec_l25Estimates_l1, ir20_b0, ir20_k0, ir20_o0, ir20_r0, hk7, hk8, lhk8, xhk8, fhk9, hk10, fhk11, fhk12, hk13, fhk14, hk15, fhk21, hk22, fhk23, fhk24, hk25]
  · try simp only [go_sem, n1, n2, n3, n4] at hk7
    all_goals
    obtain rfl := so_some h
    refine ⟨0, fun L hL => ?_⟩
    simp only [go_sem, ir20, E_spec_l25Estimates_l1, R_spec_l25Estimates_l1, ir20_b0, ir20_k0, ir20_o0, ir20_r0, hk7]

theorem Fs_spec_l25Estimates {list : List Estimate} {y_ : (List UInt8)} (h : spec_l25Estimates list = some y_) : c_spec_l25Estimates.F [.sl 5 (List.map Estimate_av list)] = ⟨true, .fresh 1 (List.map byteAV y_), [.any]⟩ := by
  refine mkF_E (by simp only [flatA, flatB, flat1, List.all_cons, List.all_nil, Bool.and_self, flatE_map (f := byteAV) (fun _ => rfl)]) ?_
  dsimp only [spec_l25Estimates] at h
  obtain ⟨y_1, hk1, h⟩ := bd_some h
  have fhk1 := Fs_spec_l25Names hk1
  try simp only [go_sem] at fhk1
  obtain ⟨y_2, hk2, h⟩ := bd_some h
  have fhk2 := Fs_spec_l25Names hk2
  try simp only [go_sem] at fhk2
  obtain ⟨y_3, hk3, h⟩ := bd_some h
  have fhk3 := Fs_spec_l25PutNames hk3
  try simp only [go_sem] at fhk3
  obtain ⟨y_4, hk4, h⟩ := bd_some h
  have fhk4 := Fs_spec_l25PutNames hk4
  try simp only [go_sem] at fhk4
  obtain ⟨y_5, hk5, h⟩ := bd_some h
  have fhk5 := Fs_spec_l25Number hk5
  try simp only [go_sem] at fhk5
  obtain ⟨hk6, h⟩ := ck_some h
  try simp only [go_sem, n1, n2, n3, n4] at hk6
  all_goals
  obtain ⟨y_26, hk26, h⟩ := bd_some h
  obtain ⟨Lhk26, ehk26⟩ := spec_l25Estimates_l1_ex hk26
  obtain ⟨y_27, hk27, h⟩ := bd_some h
  have fhk27 := Fs_spec_l25Close hk27
  try simp only [go_sem, hk6] at fhk27
  obtain rfl := so_some h
  refine ⟨Lhk26, fun L hL => ?_⟩
  have ehk26 := ehk26 L (by omega)
  try simp only [go_sem, E_spec_l25Estimates_l1, R_spec_l25Estimates_l1, ir20_k0, ir20_o0, ir20_r0, hk6] at ehk26
  simp only [go_sem, ir20, E_spec_l25Estimates_l1, R_spec_l25Estimates_l1, ir20_k0, ir20_o0, ir20_r0, fhk1, fhk2, fhk3, fhk4, fhk5, hk6, fhk27, ehk26]


def ir6_v : List Nat := [0, 2, 3]
def ir6 : AFn := ⟨1, 3, .seq (.region false [
    ⟨.var 1, 2, none, .newnil 1⟩,
    ⟨.var 2, 3, none, .mov (.c (.int .i64 (0)))⟩])
 (.seq (.test false [
    ⟨.push, 4, none, .mov (.v 0)⟩,
    ⟨.push, 5, none, .call 19 [(.s 0)]⟩,
    ⟨.push, 6, none, .un .not (.s 0)⟩] (.s 0)
  (.seq (.region false [
      ⟨.var 1, 2, none, .newnil 1⟩,
      ⟨.var 2, 3, none, .mov (.c (.int .i64 (1)))⟩])
   (.ret))
  (.skip))
 (.seq (.region false [
    ⟨.push, 7, none, .mov (.v 0)⟩,
    ⟨.push, 8, none, .call 20 [(.s 0)]⟩,
    ⟨.var 1, 2, none, .mov (.s 0)⟩,
    ⟨.var 2, 3, none, .mov (.c (.int .i64 (0)))⟩])
 (.ret))), [.t 1, .t 2]⟩
noncomputable def t_spec_PackEstimates : List (Nat × Ctr) := [(19, c_spec_l06Ok), (20, c_spec_l25Estimates)]
theorem lk_spec_PackEstimates_19 : look t_spec_PackEstimates 19 = some c_spec_l06Ok := rfl
theorem lk_spec_PackEstimates_20 : look t_spec_PackEstimates 20 = some c_spec_l25Estimates := rfl
noncomputable def c_spec_PackEstimates : Ctr := mkF t_spec_PackEstimates ir6 [.bor]
theorem s_spec_PackEstimates : Sound Try.prog 6 c_spec_PackEstimates := mkF_sound _ rfl (snd_cons s_spec_l06Ok (snd_cons s_spec_l25Estimates snd_nil)) (by kernel_rfl : chkFn Try.prog 6 ir6 ir6_v = true)
theorem M_spec_PackEstimates : c_spec_PackEstimates.modes = [.bor] := rfl
theorem Fl_spec_PackEstimates : c_spec_PackEstimates.flat = true := rfl
attribute [go_sem] M_spec_PackEstimates Fl_spec_PackEstimates
attribute [go_sem] lk_spec_PackEstimates_19 lk_spec_PackEstimates_20
theorem Fs_spec_PackEstimates {list : List Estimate} {y_ : (List UInt8) × Int} (h : spec_PackEstimates list = some y_) : c_spec_PackEstimates.F [.sl 5 (List.map Estimate_av list)] = ⟨true, .tup [.fresh 1 (List.map byteAV y_.1), .int .i64 y_.2], [.any]⟩ := by
  refine mkF_E (by simp only [flatA, flatB, flat1, List.all_cons, List.all_nil, Bool.and_self, flatE_map (f := byteAV) (fun _ => rfl)]) ?_
  dsimp only [spec_PackEstimates] at h
  obtain ⟨y_1, hk1, h⟩ := bd_some h
  have fhk1 := Fs_spec_l06Ok hk1
  try simp only [go_sem] at fhk1
  rcases it_some h with ⟨hk2, h⟩ | ⟨hk2, h⟩
  · try simp only [go_sem, n1, n2, n3, n4] at hk2
    all_goals
    obtain rfl := so_some h
    refine ⟨0, fun L hL => ?_⟩
    simp only [go_sem, ir6, fhk1, hk2]
  · try simp only [go_sem, n1, n2, n3, n4] at hk2
    all_goals
    obtain ⟨y_3, hk3, h⟩ := bd_some h
    have fhk3 := Fs_spec_l25Estimates hk3
    try simp only [go_sem, hk2] at fhk3
    obtain rfl := so_some h
    refine ⟨0, fun L hL => ?_⟩
    simp only [go_sem, ir6, fhk1, hk2, fhk3]


def ir56_v : List Nat := [0, 1, 3]
def ir56 : AFn := ⟨2, 3, .seq (.region false [
    ⟨.var 2, 3, none, .mov (.c (.bool false))⟩])
 (.seq (.region false [
    ⟨.push, 4, none, .mov (.v 0)⟩,
    ⟨.push, 5, none, .load false 1 (.v 1)⟩,
    ⟨.push, 6, none, .bin false .eql (.s 1) (.s 0)⟩,
    ⟨.var 2, 3, none, .mov (.s 0)⟩])
 (.ret)), [.t 2]⟩
noncomputable def t_impl_placeOf_c1 : List (Nat × Ctr) := []
noncomputable def c_impl_placeOf_c1 : Ctr := mkF t_impl_placeOf_c1 ir56 [.bor, .bor]
theorem s_impl_placeOf_c1 : Sound Try.prog 56 c_impl_placeOf_c1 := mkF_sound _ rfl snd_nil (by kernel_rfl : chkFn Try.prog 56 ir56 ir56_v = true)
theorem M_impl_placeOf_c1 : c_impl_placeOf_c1.modes = [.bor, .bor] := rfl
theorem Fl_impl_placeOf_c1 : c_impl_placeOf_c1.flat = true := rfl
attribute [go_sem] M_impl_placeOf_c1 Fl_impl_placeOf_c1
theorem Fs_impl_placeOf_c1 {s_ : List UInt8} {t1 : List UInt8} {y_ : Bool} (h : impl_placeOf_c1 s_ t1 = some y_) : c_impl_placeOf_c1.F [.str s_, .ptr 1 [.str t1] 0 0] = ⟨true, .bool y_, [.any, .any]⟩ := by
  refine mkF_E rfl ?_
  dsimp only [impl_placeOf_c1] at h
  obtain rfl := so_some h
  refine ⟨0, fun L hL => ?_⟩
  simp only [go_sem, ir56]


def ir75_b0 : IR := .seq (.region false [
    ⟨.var 6, 9, none, .bin false .lss (.v 5) (.v 4)⟩])
 (.seq (.cond (.v 6) (.skip)
  (.exit 0))
 (.seq (.block 1 (.seq (.region false [
      ⟨.push, 10, none, .mov (.v 5)⟩,
      ⟨.var 3, 5, none, .mov (.s 0)⟩])
   (.test false [
     ⟨.push, 11, none, .mov (.v 1)⟩,
     ⟨.push, 12, none, .mov (.v 0)⟩,
     ⟨.push, 13, none, .mov (.v 3)⟩,
     ⟨.push, 14, none, .ixAddr 1 (.s 1) (.s 0)⟩,
     ⟨.push, 15, none, .load false 1 (.s 0)⟩,
     ⟨.push, 16, none, .callv (.s 4) [(.s 0)]⟩] (.s 0)
   (.seq (.region false [
       ⟨.push, 17, none, .mov (.v 3)⟩,
       ⟨.var 2, 4, none, .mov (.s 0)⟩])
    (.ret))
   (.skip))))
 (.region false [
   ⟨.push, 18, none, .bin false .add (.v 5) (.c (.int .i64 (1)))⟩,
   ⟨.var 5, 8, none, .mov (.s 0)⟩])))
def ir75_k0 : List Bool := [true, true, false, false, true, true, false]
def ir75_o0 : List Bool := [false, false, false, false, false, false, false]
def ir75_r0 : List Bool := [false, false, true, false, false, false, false]
def ir75_v : List Nat := [0, 1, 4, 5, 7, 8, 9]
def ir75 : AFn := ⟨2, 7, .seq (.region false [
    ⟨.var 2, 4, none, .mov (.c (.int .i64 (0)))⟩])
 (.seq (.seq (.region false [
     ⟨.push, 6, none, .mov (.v 0)⟩,
     ⟨.var 4, 7, none, .len false (.s 0)⟩,
     ⟨.var 5, 8, none, .mov (.c (.int .i64 (0)))⟩])
  (.block 0 (.loop ir75_k0 ir75_o0 ir75_r0 ir75_b0)))
 (.seq (.region false [
    ⟨.var 2, 4, none, .mov (.c (.int .i64 (-1)))⟩])
 (.ret))), [.t 2]⟩
noncomputable def t_slices_IndexFunc_string_string__impl_placeOf_c1 : List (Nat × Ctr) := [(56, c_impl_placeOf_c1)]
theorem lk_slices_IndexFunc_string_string__impl_placeOf_c1_56 : look t_slices_IndexFunc_string_string__impl_placeOf_c1 56 = some c_impl_placeOf_c1 := rfl
noncomputable def c_slices_IndexFunc_string_string__impl_placeOf_c1 : Ctr := mkF t_slices_IndexFunc_string_string__impl_placeOf_c1 ir75 [.bor, .bor]
theorem s_slices_IndexFunc_string_string__impl_placeOf_c1 : Sound Try.prog 75 c_slices_IndexFunc_string_string__impl_placeOf_c1 := mkF_sound _ rfl (snd_cons s_impl_placeOf_c1 snd_nil) (by kernel_rfl : chkFn Try.prog 75 ir75 ir75_v = true)
theorem M_slices_IndexFunc_string_string__impl_placeOf_c1 : c_slices_IndexFunc_string_string__impl_placeOf_c1.modes = [.bor, .bor] := rfl
theorem Fl_slices_IndexFunc_string_string__impl_placeOf_c1 : c_slices_IndexFunc_string_string__impl_placeOf_c1.flat = true := rfl
attribute [go_sem] M_slices_IndexFunc_string_string__impl_placeOf_c1 Fl_slices_IndexFunc_string_string__impl_placeOf_c1
attribute [go_sem] lk_slices_IndexFunc_string_string__impl_placeOf_c1_56
def E_slices_IndexFunc_string_string__impl_placeOf_c1_l1 (s_ : List (List UInt8)) (c : List UInt8) (t7 : Int) : Int → St
  | t8 => ⟨[.sl 1 (List.map AV.str s_), .fn (.func 56) [] [.ptr 1 [.str c] 0 0], .any, .any, .int .i64 t7, .int .i64 t8, .any], [], [], true⟩
def R_slices_IndexFunc_string_string__impl_placeOf_c1_l1 (s_ : List (List UInt8)) (c : List UInt8) (t7 : Int) : (Unit ⊕ Int) → Res
  | .inl y => (.exit 0, ⟨[.any, .any, .any, .any, .any, .any, .any], [], [], true⟩)
  | .inr y => (.ret, ⟨[.any, .any, .int .i64 y, .any, .any, .any, .any], [], [], true⟩)
theorem slices_IndexFunc_string_string__impl_placeOf_c1_l1_ex {s_ : List (List UInt8)} {c : List UInt8} {t7 : Int} {sgm_ : Int} {rho_ : Unit ⊕ Int} (h : whileE (slices_IndexFunc_string_string__impl_placeOf_c1_l1 s_ c t7) sgm_ = some rho_) : ∃ L0, ∀ L, L0 ≤ L → iter (exec (look t_slices_IndexFunc_string_string__impl_placeOf_c1) L ir75_b0) ir75_k0 ir75_o0 ir75_r0 L (E_slices_IndexFunc_string_string__impl_placeOf_c1_l1 s_ c t7 sgm_) = R_slices_IndexFunc_string_string__impl_placeOf_c1_l1 s_ c t7 rho_ := by
  refine loop_ex (E := E_slices_IndexFunc_string_string__impl_placeOf_c1_l1 s_ c t7) (R := R_slices_IndexFunc_string_string__impl_placeOf_c1_l1 s_ c t7) (fun y => by first | (intro c; cases c) | (rcases y with y | y <;> (intro c; cases c)) | (rcases y with y | y | y <;> (intro c; cases c))) ?_ h
  clear h
  intro t8 o_ h
  dsimp only [slices_IndexFunc_string_string__impl_placeOf_c1_l1] at h
  rcases it_some h with ⟨hk1, h⟩ | ⟨hk1, h⟩
  · try simp only [go_sem, n1, n2, n3, n4] at hk1
    all_goals
    obtain ⟨hk2, h⟩ := ck_some h
    have lhk2 := ix_lt hk2
    have xhk2 := getD_mapD AV.str s_ lhk2
    try simp only [go_sem] at lhk2
    try simp only [go_sem] at xhk2
    try simp only [go_sem, n1, n2, n3, n4, hk1] at hk2
    all_goals
    obtain ⟨y_3, hk3, h⟩ := bd_some h
    have fhk3 := Fs_impl_placeOf_c1 hk3
    try simp only [go_sem, hk1, hk2] at fhk3
    rcases it_some h with ⟨hk4, h⟩ | ⟨hk4, h⟩
    · try simp only [go_sem, n1, n2, n3, n4, hk1, hk2] at hk4
      all_goals
      obtain rfl := so_some h
      refine ⟨0, fun L hL => ?_⟩
      simp only [go_sem, ir75, E_slices_IndexFunc_string_string__impl_placeOf_c1_l1, R_slices_IndexFunc_string_string__impl_placeOf_c1_l1, ir75_b0, ir75_k0, ir75_o0, ir75_r0, hk1, hk2, lhk2, xhk2, fhk3, hk4]
    · try simp only [go_sem, n1, n2, n3, n4, hk1, hk2] at hk4
      all_goals
      obtain rfl := so_some h
      refine ⟨0, fun L hL => ?_⟩
      simp only [go_sem, ir75, E_slices_IndexFunc_string_string__impl_placeOf_c1_l1, R_slices_IndexFunc_string_string__impl_placeOf_c1_l1, ir75_b0, ir75_k0, ir75_o0, ir75_r0, hk1, hk2, lhk2, xhk2, fhk3, hk4]
  · try simp only [go_sem, n1, n2, n3, n4] at hk1
    all_goals
    obtain rfl := so_some h
    refine ⟨0, fun L hL => ?_⟩
    simp only [go_sem, ir75, E_slices_IndexFunc_string_string__impl_placeOf_c1_l1, R_slices_IndexFunc_string_string__impl_placeOf_c1_l1, ir75_b0, ir75_k0, ir75_o0, ir75_r0, hk1]

theorem Fs_slices_IndexFunc_string_string__impl_placeOf_c1 {s_ : List (List UInt8)} {f_c0 : List UInt8} {y_ : Int} (h : slices_IndexFunc_string_string__impl_placeOf_c1 s_ f_c0 = some y_) : c_slices_IndexFunc_string_string__impl_placeOf_c1.F [.sl 1 (List.map AV.str s_), .fn (.func 56) [] [.ptr 1 [.str f_c0] 0 0]] = ⟨true, .int .i64 y_, [.any, .any]⟩ := by
  refine mkF_E rfl ?_
  dsimp only [slices_IndexFunc_string_string__impl_placeOf_c1] at h
  obtain ⟨y_5, hk5, h⟩ := bd_some h
  obtain ⟨Lhk5, ehk5⟩ := slices_IndexFunc_string_string__impl_placeOf_c1_l1_ex hk5
  rcases y_5 with y_5a | y_5b
  · dsimp only at h
    obtain rfl := so_some h
    refine ⟨Lhk5, fun L hL => ?_⟩
    have ehk5 := ehk5 L (by omega)
    try simp only [go_sem, E_slices_IndexFunc_string_string__impl_placeOf_c1_l1, R_slices_IndexFunc_string_string__impl_placeOf_c1_l1, ir75_k0, ir75_o0, ir75_r0] at ehk5
    simp only [go_sem, ir75, E_slices_IndexFunc_string_string__impl_placeOf_c1_l1, R_slices_IndexFunc_string_string__impl_placeOf_c1_l1, ir75_k0, ir75_o0, ir75_r0, ehk5]
  · dsimp only at h
    obtain rfl := so_some h
    refine ⟨Lhk5, fun L hL => ?_⟩
    have ehk5 := ehk5 L (by omega)
    try simp only [go_sem, E_slices_IndexFunc_string_string__impl_placeOf_c1_l1, R_slices_IndexFunc_string_string__impl_placeOf_c1_l1, ir75_k0, ir75_o0, ir75_r0] at ehk5
    simp only [go_sem, ir75, E_slices_IndexFunc_string_string__impl_placeOf_c1_l1, R_slices_IndexFunc_string_string__impl_placeOf_c1_l1, ir75_k0, ir75_o0, ir75_r0, ehk5]


def ir55_v : List Nat := [0, 1, 4, 5, 6]
def ir55 : AFn := ⟨2, 5, .seq (.region false [
    ⟨.var 2, 4, none, .mov (.c (.int .i64 (0)))⟩,
    ⟨.var 3, 5, none, .mov (.c (.int .i64 (0)))⟩])
 (.seq (.seq (.region false [
     ⟨.push, 7, none, .mov (.v 0)⟩,
     ⟨.push, 8, none, .mov (.v 1)⟩,
     ⟨.push, 9, none, .call 75 [(.s 1), (.s 0)]⟩,
     ⟨.var 4, 6, none, .mov (.s 0)⟩])
  (.test false [
    ⟨.push, 10, none, .mov (.v 4)⟩,
    ⟨.push, 11, none, .bin false .geq (.s 0) (.c (.int .i64 (0)))⟩] (.s 0)
  (.seq (.region false [
      ⟨.push, 12, none, .mov (.v 4)⟩,
      ⟨.var 2, 4, none, .mov (.s 0)⟩,
      ⟨.var 3, 5, none, .mov (.c (.int .i64 (0)))⟩])
   (.ret))
  (.skip)))
 (.seq (.region false [
    ⟨.var 2, 4, none, .mov (.c (.int .i64 (0)))⟩,
    ⟨.var 3, 5, none, .mov (.c (.int .i64 (3)))⟩])
 (.ret))), [.t 2, .t 3]⟩
noncomputable def t_impl_indexOf_string__impl_placeOf_c1 : List (Nat × Ctr) := [(75, c_slices_IndexFunc_string_string__impl_placeOf_c1)]
theorem lk_impl_indexOf_string__impl_placeOf_c1_75 : look t_impl_indexOf_string__impl_placeOf_c1 75 = some c_slices_IndexFunc_string_string__impl_placeOf_c1 := rfl
noncomputable def c_impl_indexOf_string__impl_placeOf_c1 : Ctr := mkF t_impl_indexOf_string__impl_placeOf_c1 ir55 [.bor, .bor]
theorem s_impl_indexOf_string__impl_placeOf_c1 : Sound Try.prog 55 c_impl_indexOf_string__impl_placeOf_c1 := mkF_sound _ rfl (snd_cons s_slices_IndexFunc_string_string__impl_placeOf_c1 snd_nil) (by kernel_rfl : chkFn Try.prog 55 ir55 ir55_v = true)
theorem M_impl_indexOf_string__impl_placeOf_c1 : c_impl_indexOf_string__impl_placeOf_c1.modes = [.bor, .bor] := rfl
theorem Fl_impl_indexOf_string__impl_placeOf_c1 : c_impl_indexOf_string__impl_placeOf_c1.flat = true := rfl
attribute [go_sem] M_impl_indexOf_string__impl_placeOf_c1 Fl_impl_indexOf_string__impl_placeOf_c1
attribute [go_sem] lk_impl_indexOf_string__impl_placeOf_c1_75
theorem Fs_impl_indexOf_string__impl_placeOf_c1 {list : List (List UInt8)} {wanted_c0 : List UInt8} {y_ : Int × Int} (h : impl_indexOf_string__impl_placeOf_c1 list wanted_c0 = some y_) : c_impl_indexOf_string__impl_placeOf_c1.F [.sl 1 (List.map AV.str list), .fn (.func 56) [] [.ptr 1 [.str wanted_c0] 0 0]] = ⟨true, .tup [.int .i64 y_.1, .int .i64 y_.2], [.any, .any]⟩ := by
  refine mkF_E rfl ?_
  dsimp only [impl_indexOf_string__impl_placeOf_c1] at h
  obtain ⟨y_1, hk1, h⟩ := bd_some h
  have fhk1 := Fs_slices_IndexFunc_string_string__impl_placeOf_c1 hk1
  try simp only [go_sem] at fhk1
  rcases it_some h with ⟨hk2, h⟩ | ⟨hk2, h⟩
  · try simp only [go_sem, n1, n2, n3, n4] at hk2
    all_goals
    obtain rfl := so_some h
    refine ⟨0, fun L hL => ?_⟩
    simp only [go_sem, ir55, fhk1, hk2]
  · try simp only [go_sem, n1, n2, n3, n4] at hk2
    all_goals
    obtain rfl := so_some h
    refine ⟨0, fun L hL => ?_⟩
    simp only [go_sem, ir55, fhk1, hk2]


def ir29_v : List Nat := [0, 1, 3, 4, 5]
def ir29 : AFn := ⟨2, 5, .seq (.region false [
    ⟨.var 2, 3, none, .box (.v 1)⟩,
    ⟨.var 3, 4, none, .mov (.c (.int .i64 (0)))⟩])
 (.seq (.region false [
    ⟨.push, 8, none, .mov (.v 0)⟩,
    ⟨.push, 9, none, .mkFn (.func 56) [] [(.v 2)]⟩,
    ⟨.push, 10, none, .call 55 [(.s 1), (.s 0)]⟩,
    ⟨.push, 7, none, .mov (.s 0)⟩,
    ⟨.push, 11, none, .ext (.s 0) 0⟩,
    ⟨.push, 12, none, .ext (.s 1) 1⟩,
    ⟨.var 4, 5, none, .mov (.s 1)⟩,
    ⟨.push, 6, none, .mov (.s 0)⟩])
 (.seq (.region false [
    ⟨.push, 13, none, .mov (.v 4)⟩,
    ⟨.var 3, 4, none, .mov (.s 0)⟩])
 (.ret))), [.t 3]⟩
noncomputable def t_impl_placeOf : List (Nat × Ctr) := [(55, c_impl_indexOf_string__impl_placeOf_c1)]
theorem lk_impl_placeOf_55 : look t_impl_placeOf 55 = some c_impl_indexOf_string__impl_placeOf_c1 := rfl
noncomputable def c_impl_placeOf : Ctr := mkF t_impl_placeOf ir29 [.bor, .bor]
theorem s_impl_placeOf : Sound Try.prog 29 c_impl_placeOf := mkF_sound _ rfl (snd_cons s_impl_indexOf_string__impl_placeOf_c1 snd_nil) (by kernel_rfl : chkFn Try.prog 29 ir29 ir29_v = true)
theorem M_impl_placeOf : c_impl_placeOf.modes = [.bor, .bor] := rfl
theorem Fl_impl_placeOf : c_impl_placeOf.flat = true := rfl
attribute [go_sem] M_impl_placeOf Fl_impl_placeOf
attribute [go_sem] lk_impl_placeOf_55
theorem Fs_impl_placeOf {names : List (List UInt8)} {name : List UInt8} {y_ : Int} (h : impl_placeOf names name = some y_) : c_impl_placeOf.F [.sl 1 (List.map AV.str names), .str name] = ⟨true, .int .i64 y_, [.any, .any]⟩ := by
  refine mkF_E rfl ?_
  dsimp only [impl_placeOf] at h
  obtain ⟨y_1, hk1, h⟩ := bd_some h
  have fhk1 := Fs_impl_indexOf_string__impl_placeOf_c1 hk1
  try simp only [go_sem] at fhk1
  obtain rfl := so_some h
  refine ⟨0, fun L hL => ?_⟩
  simp only [go_sem, ir29, fhk1]


def ir30_v : List Nat := [0, 2]
def ir30 : AFn := ⟨1, 2, .seq (.region false [
    ⟨.var 1, 2, none, .mov (.c (.int .i64 (0)))⟩])
 (.seq (.test false [
    ⟨.push, 3, none, .mov (.v 0)⟩,
    ⟨.push, 4, none, .bin false .lss (.s 0) (.c (.int .i64 (0)))⟩] (.s 0)
  (.seq (.region false [
      ⟨.push, 5, none, .mov (.v 0)⟩,
      ⟨.push, 6, none, .bin false .mul (.c (.int .i64 (-2))) (.s 0)⟩,
      ⟨.push, 7, none, .bin false .sub (.s 0) (.c (.int .i64 (1)))⟩,
      ⟨.var 1, 2, none, .mov (.s 0)⟩])
   (.ret))
  (.skip))
 (.seq (.region false [
    ⟨.push, 8, none, .mov (.v 0)⟩,
    ⟨.push, 9, none, .bin false .mul (.c (.int .i64 (2))) (.s 0)⟩,
    ⟨.var 1, 2, none, .mov (.s 0)⟩])
 (.ret))), [.t 1]⟩
noncomputable def t_impl_fold : List (Nat × Ctr) := []
noncomputable def c_impl_fold : Ctr := mkF t_impl_fold ir30 [.bor]
theorem s_impl_fold : Sound Try.prog 30 c_impl_fold := mkF_sound _ rfl snd_nil (by kernel_rfl : chkFn Try.prog 30 ir30 ir30_v = true)
theorem M_impl_fold : c_impl_fold.modes = [.bor] := rfl
theorem Fl_impl_fold : c_impl_fold.flat = true := rfl
attribute [go_sem] M_impl_fold Fl_impl_fold
theorem Fs_impl_fold {n : Int} {y_ : Int} (h : impl_fold n = some y_) : c_impl_fold.F [.int .i64 n] = ⟨true, .int .i64 y_, [.any]⟩ := by
  refine mkF_E rfl ?_
  dsimp only [impl_fold] at h
  rcases it_some h with ⟨hk1, h⟩ | ⟨hk1, h⟩
  · try simp only [go_sem, n1, n2, n3, n4] at hk1
    all_goals
    obtain rfl := so_some h
    refine ⟨0, fun L hL => ?_⟩
    simp only [go_sem, ir30, hk1]
  · try simp only [go_sem, n1, n2, n3, n4] at hk1
    all_goals
    obtain rfl := so_some h
    refine ⟨0, fun L hL => ?_⟩
    simp only [go_sem, ir30, hk1]


def ir80_v : List Nat := [0, 1, 2, 6]
def ir80 : AFn := ⟨3, 4, .seq (.region false [
    ⟨.var 3, 6, none, .mov (.c (.bool false))⟩])
 (.seq (.region false [
    ⟨.push, 7, none, .mov (.v 0)⟩,
    ⟨.push, 8, none, .mov (.v 1)⟩,
    ⟨.push, 9, none, .bin false .geq (.s 1) (.s 0)⟩,
    ⟨.push, 10, none, .mov (.s 0)⟩,
    ⟨.push, 11, (some ((.s 0), true)), .mov (.v 0)⟩,
    ⟨.push, 12, (some ((.s 1), true)), .mov (.v 2)⟩,
    ⟨.push, 13, (some ((.s 2), true)), .bin false .leq (.s 1) (.s 0)⟩,
    ⟨.push, 14, none, .pick (.s 3) (.s 0) (.c (.bool false))⟩,
    ⟨.var 3, 6, none, .mov (.s 0)⟩])
 (.ret)), [.t 3]⟩
noncomputable def t_impl_in : List (Nat × Ctr) := []
noncomputable def c_impl_in : Ctr := mkF t_impl_in ir80 [.bor, .bor, .bor]
theorem s_impl_in : Sound Try.prog 80 c_impl_in := mkF_sound _ rfl snd_nil (by kernel_rfl : chkFn Try.prog 80 ir80 ir80_v = true)
theorem M_impl_in : c_impl_in.modes = [.bor, .bor, .bor] := rfl
theorem Fl_impl_in : c_impl_in.flat = true := rfl
attribute [go_sem] M_impl_in Fl_impl_in
theorem Fs_impl_in {n : Int} {low : Int} {high : Int} {y_ : Bool} (h : impl_in n low high = some y_) : c_impl_in.F [.int .i64 n, .int .i64 low, .int .i64 high] = ⟨true, .bool y_, [.any, .any, .any]⟩ := by
  refine mkF_E rfl ?_
  dsimp only [impl_in] at h
  obtain rfl := so_some h
  refine ⟨0, fun L hL => ?_⟩
  simp only [go_sem, ir80]


def ir67_v : List Nat := [0, 2]
def ir67 : AFn := ⟨1, 2, .seq (.region false [
    ⟨.var 1, 2, none, .mov (.c (.bool false))⟩])
 (.seq (.region false [
    ⟨.push, 3, none, .mov (.v 0)⟩,
    ⟨.push, 4, none, .call 80 [(.s 0), (.c (.int .i64 (0))), (.c (.int .i64 (10000000)))]⟩,
    ⟨.var 1, 2, none, .mov (.s 0)⟩])
 (.ret)), [.t 1]⟩
noncomputable def t_impl_ValidTime : List (Nat × Ctr) := [(80, c_impl_in)]
theorem lk_impl_ValidTime_80 : look t_impl_ValidTime 80 = some c_impl_in := rfl
noncomputable def c_impl_ValidTime : Ctr := mkF t_impl_ValidTime ir67 [.bor]
theorem s_impl_ValidTime : Sound Try.prog 67 c_impl_ValidTime := mkF_sound _ rfl (snd_cons s_impl_in snd_nil) (by kernel_rfl : chkFn Try.prog 67 ir67 ir67_v = true)
theorem M_impl_ValidTime : c_impl_ValidTime.modes = [.bor] := rfl
theorem Fl_impl_ValidTime : c_impl_ValidTime.flat = true := rfl
attribute [go_sem] M_impl_ValidTime Fl_impl_ValidTime
attribute [go_sem] lk_impl_ValidTime_80
theorem Fs_impl_ValidTime {t : Int} {y_ : Bool} (h : impl_ValidTime t = some y_) : c_impl_ValidTime.F [.int .i64 t] = ⟨true, .bool y_, [.any]⟩ := by
  refine mkF_E rfl ?_
  dsimp only [impl_ValidTime] at h
  obtain ⟨y_1, hk1, h⟩ := bd_some h
  have fhk1 := Fs_impl_in hk1
  try simp only [go_sem] at fhk1
  obtain rfl := so_some h
  refine ⟨0, fun L hL => ?_⟩
  simp only [go_sem, ir67, fhk1]


def ir68_b0 : IR := .seq (.region false [
    ⟨.var 7, 17, none, .bin false .lss (.v 6) (.v 5)⟩])
 (.seq (.cond (.v 7) (.skip)
  (.exit 0))
 (.seq (.block 1 (.seq (.region false [
      ⟨.push, 18, none, .mov (.v 6)⟩,
      ⟨.var 2, 3, none, .mov (.s 0)⟩])
   (.seq (.region false [
      ⟨.push, 19, none, .mov (.v 0)⟩,
      ⟨.push, 20, none, .mov (.v 2)⟩,
      ⟨.push, 21, none, .ixStr (.s 1) (.s 0)⟩,
      ⟨.push, 22, none, .bin false .geq (.s 0) (.c (.int .u8 (97)))⟩,
      ⟨.push, 23, none, .mov (.s 0)⟩,
      ⟨.push, 24, (some ((.s 0), true)), .mov (.v 0)⟩,
      ⟨.push, 25, (some ((.s 1), true)), .mov (.v 2)⟩,
      ⟨.push, 26, (some ((.s 2), true)), .ixStr (.s 1) (.s 0)⟩,
      ⟨.push, 27, (some ((.s 3), true)), .bin false .leq (.s 0) (.c (.int .u8 (122)))⟩,
      ⟨.push, 28, none, .pick (.s 4) (.s 0) (.c (.bool false))⟩,
      ⟨.var 3, 4, none, .mov (.s 0)⟩])
   (.seq (.region false [
      ⟨.push, 29, none, .mov (.v 0)⟩,
      ⟨.push, 30, none, .mov (.v 2)⟩,
      ⟨.push, 31, none, .ixStr (.s 1) (.s 0)⟩,
      ⟨.push, 32, none, .bin false .geq (.s 0) (.c (.int .u8 (48)))⟩,
      ⟨.push, 33, none, .mov (.s 0)⟩,
      ⟨.push, 34, (some ((.s 0), true)), .mov (.v 0)⟩,
      ⟨.push, 35, (some ((.s 1), true)), .mov (.v 2)⟩,
      ⟨.push, 36, (some ((.s 2), true)), .ixStr (.s 1) (.s 0)⟩,
      ⟨.push, 37, (some ((.s 3), true)), .bin false .leq (.s 0) (.c (.int .u8 (57)))⟩,
      ⟨.push, 38, none, .pick (.s 4) (.s 0) (.c (.bool false))⟩,
      ⟨.push, 39, none, .mov (.s 0)⟩,
      ⟨.push, 40, (some ((.s 0), false)), .mov (.v 0)⟩,
      ⟨.push, 41, (some ((.s 1), false)), .mov (.v 2)⟩,
      ⟨.push, 42, (some ((.s 2), false)), .ixStr (.s 1) (.s 0)⟩,
      ⟨.push, 43, (some ((.s 3), false)), .bin false .eql (.s 0) (.c (.int .u8 (45)))⟩,
      ⟨.push, 44, none, .pick (.s 4) (.c (.bool true)) (.s 0)⟩,
      ⟨.var 4, 5, none, .mov (.s 0)⟩])
   (.test false [
     ⟨.push, 45, none, .mov (.v 3)⟩,
     ⟨.push, 46, none, .un .not (.s 0)⟩,
     ⟨.push, 47, none, .mov (.s 0)⟩,
     ⟨.push, 48, (some ((.s 0), true)), .mov (.v 2)⟩,
     ⟨.push, 49, (some ((.s 1), true)), .bin false .eql (.s 0) (.c (.int .i64 (0)))⟩,
     ⟨.push, 50, (some ((.s 2), true)), .mov (.s 0)⟩,
     ⟨.push, 51, (some ((.s 0), false)), .mov (.v 4)⟩,
     ⟨.push, 52, (some ((.s 1), false)), .un .not (.s 0)⟩,
     ⟨.push, 53, (some ((.s 5), true)), .pick (.s 2) (.c (.bool true)) (.s 0)⟩,
     ⟨.push, 54, none, .pick (.s 6) (.s 0) (.c (.bool false))⟩] (.s 0)
   (.seq (.region false [
       ⟨.var 1, 2, none, .mov (.c (.bool false))⟩])
    (.ret))
   (.skip))))))
 (.region false [
   ⟨.push, 55, none, .bin false .add (.v 6) (.c (.int .i64 (1)))⟩,
   ⟨.var 6, 16, none, .mov (.s 0)⟩])))
def ir68_k0 : List Bool := [true, false, false, false, false, true, true, false]
def ir68_o0 : List Bool := [false, false, false, false, false, false, false, false]
def ir68_r0 : List Bool := [false, true, false, false, false, false, false, false]
def ir68_v : List Nat := [0, 2, 3, 4, 5, 15, 16, 17]
def ir68 : AFn := ⟨1, 8, .seq (.region false [
    ⟨.var 1, 2, none, .mov (.c (.bool false))⟩])
 (.seq (.test false [
    ⟨.push, 6, none, .mov (.v 0)⟩,
    ⟨.push, 7, none, .len true (.s 0)⟩,
    ⟨.push, 8, none, .bin false .lss (.s 0) (.c (.int .i64 (1)))⟩,
    ⟨.push, 9, none, .mov (.s 0)⟩,
    ⟨.push, 10, (some ((.s 0), false)), .mov (.v 0)⟩,
    ⟨.push, 11, (some ((.s 1), false)), .len true (.s 0)⟩,
    ⟨.push, 12, (some ((.s 2), false)), .bin false .gtr (.s 0) (.c (.int .i64 (12)))⟩,
    ⟨.push, 13, none, .pick (.s 3) (.c (.bool true)) (.s 0)⟩] (.s 0)
  (.seq (.region false [
      ⟨.var 1, 2, none, .mov (.c (.bool false))⟩])
   (.ret))
  (.skip))
 (.seq (.seq (.region false [
     ⟨.push, 14, none, .mov (.v 0)⟩,
     ⟨.var 5, 15, none, .len true (.s 0)⟩,
     ⟨.var 6, 16, none, .mov (.c (.int .i64 (0)))⟩])
  (.block 0 (.loop ir68_k0 ir68_o0 ir68_r0 ir68_b0)))
 (.seq (.region false [
    ⟨.var 1, 2, none, .mov (.c (.bool true))⟩])
 (.ret)))), [.t 1]⟩
noncomputable def t_impl_IsName : List (Nat × Ctr) := []
noncomputable def c_impl_IsName : Ctr := mkF t_impl_IsName ir68 [.bor]
theorem s_impl_IsName : Sound Try.prog 68 c_impl_IsName := mkF_sound _ rfl snd_nil (by kernel_rfl : chkFn Try.prog 68 ir68 ir68_v = true)
theorem M_impl_IsName : c_impl_IsName.modes = [.bor] := rfl
theorem Fl_impl_IsName : c_impl_IsName.flat = true := rfl
attribute [go_sem] M_impl_IsName Fl_impl_IsName
def E_impl_IsName_l1 (s_ : List UInt8) (t15 : Int) : Int → St
  | t16 => ⟨[.str s_, .any, .any, .any, .any, .int .i64 t15, .int .i64 t16, .any], [], [], true⟩
def R_impl_IsName_l1 (s_ : List UInt8) (t15 : Int) : (Unit ⊕ Bool) → Res
  | .inl y => (.exit 0, ⟨[.any, .any, .any, .any, .any, .any, .any, .any], [], [], true⟩)
  | .inr y => (.ret, ⟨[.any, .bool y, .any, .any, .any, .any, .any, .any], [], [], true⟩)
theorem impl_IsName_l1_ex {s_ : List UInt8} {t15 : Int} {sgm_ : Int} {rho_ : Unit ⊕ Bool} (h : whileE (impl_IsName_l1 s_ t15) sgm_ = some rho_) : ∃ L0, ∀ L, L0 ≤ L → iter (exec (look t_impl_IsName) L ir68_b0) ir68_k0 ir68_o0 ir68_r0 L (E_impl_IsName_l1 s_ t15 sgm_) = R_impl_IsName_l1 s_ t15 rho_ := by
  refine loop_ex (E := E_impl_IsName_l1 s_ t15) (R := R_impl_IsName_l1 s_ t15) (fun y => by first | (intro c; cases c) | (rcases y with y | y <;> (intro c; cases c)) | (rcases y with y | y | y <;> (intro c; cases c))) ?_ h
  clear h
  intro t16 o_ h
  dsimp only [impl_IsName_l1] at h
  rcases it_some h with ⟨hk2, h⟩ | ⟨hk2, h⟩
  · try simp only [go_sem, n1, n2, n3, n4] at hk2
    all_goals
    obtain ⟨hk3, h⟩ := ck_some h
    try simp only [go_sem, n1, n2, n3, n4, hk2] at hk3
    all_goals
    rcases it_some h with ⟨hk4, h⟩ | ⟨hk4, h⟩
    · try simp only [go_sem, n1, n2, n3, n4, hk2, hk3] at hk4
      all_goals
      obtain rfl := so_some h
      refine ⟨0, fun L hL => ?_⟩
      simp only [go_sem, ir68, E_impl_IsName_l1, R_impl_IsName_l1, ir68_b0, ir68_k0, ir68_o0, ir68_r0, hk2, hk3, hk4]
    · try simp only [go_sem, n1, n2, n3, n4, hk2, hk3] at hk4
      all_goals
      obtain rfl := so_some h
      refine ⟨0, fun L hL => ?_⟩
      simp only [go_sem, ir68, E_impl_IsName_l1, R_impl_IsName_l1, ir68_b0, ir68_k0, ir68_o0, ir68_r0, hk2, hk3, hk4]
  · try simp only [go_sem, n1, n2, n3, n4] at hk2
    all_goals
    obtain rfl := so_some h
    refine ⟨0, fun L hL => ?_⟩
    simp only [go_sem, ir68, E_impl_IsName_l1, R_impl_IsName_l1, ir68_b0, ir68_k0, ir68_o0, ir68_r0, hk2]

theorem Fs_impl_IsName {s_ : List UInt8} {y_ : Bool} (h : impl_IsName s_ = some y_) : c_impl_IsName.F [.str s_] = ⟨true, .bool y_, [.any]⟩ := by
  refine mkF_E rfl ?_
  dsimp only [impl_IsName] at h
  rcases it_some h with ⟨hk1, h⟩ | ⟨hk1, h⟩
  · try simp only [go_sem, n1, n2, n3, n4] at hk1
    all_goals
    obtain rfl := so_some h
    refine ⟨0, fun L hL => ?_⟩
    simp only [go_sem, ir68, E_impl_IsName_l1, R_impl_IsName_l1, ir68_k0, ir68_o0, ir68_r0, hk1]
  · try simp only [go_sem, n1, n2, n3, n4] at hk1
    all_goals
    obtain ⟨y_5, hk5, h⟩ := bd_some h
    obtain ⟨Lhk5, ehk5⟩ := impl_IsName_l1_ex hk5
    rcases y_5 with y_5a | y_5b
    · dsimp only at h
      obtain rfl := so_some h
      refine ⟨Lhk5, fun L hL => ?_⟩
      have ehk5 := ehk5 L (by omega)
      try simp only [go_sem, E_impl_IsName_l1, R_impl_IsName_l1, ir68_k0, ir68_o0, ir68_r0, hk1] at ehk5
      simp only [go_sem, ir68, E_impl_IsName_l1, R_impl_IsName_l1, ir68_k0, ir68_o0, ir68_r0, hk1, ehk5]
    · dsimp only at h
      obtain rfl := so_some h
      refine ⟨Lhk5, fun L hL => ?_⟩
      have ehk5 := ehk5 L (by omega)
      try simp only [go_sem, E_impl_IsName_l1, R_impl_IsName_l1, ir68_k0, ir68_o0, ir68_r0, hk1] at ehk5
      simp only [go_sem, ir68, E_impl_IsName_l1, R_impl_IsName_l1, ir68_k0, ir68_o0, ir68_r0, hk1, ehk5]


def ir69_v : List Nat := [0, 2]
def ir69 : AFn := ⟨1, 2, .seq (.region false [
    ⟨.var 1, 2, none, .mov (.c (.bool false))⟩])
 (.seq (.region false [
    ⟨.push, 3, none, .mov (.v 0)⟩,
    ⟨.push, 4, none, .call 80 [(.s 0), (.c (.int .i64 (-2000))), (.c (.int .i64 (20000)))]⟩,
    ⟨.var 1, 2, none, .mov (.s 0)⟩])
 (.ret)), [.t 1]⟩
noncomputable def t_impl_ValidMag : List (Nat × Ctr) := [(80, c_impl_in)]
theorem lk_impl_ValidMag_80 : look t_impl_ValidMag 80 = some c_impl_in := rfl
noncomputable def c_impl_ValidMag : Ctr := mkF t_impl_ValidMag ir69 [.bor]
theorem s_impl_ValidMag : Sound Try.prog 69 c_impl_ValidMag := mkF_sound _ rfl (snd_cons s_impl_in snd_nil) (by kernel_rfl : chkFn Try.prog 69 ir69 ir69_v = true)
theorem M_impl_ValidMag : c_impl_ValidMag.modes = [.bor] := rfl
theorem Fl_impl_ValidMag : c_impl_ValidMag.flat = true := rfl
attribute [go_sem] M_impl_ValidMag Fl_impl_ValidMag
attribute [go_sem] lk_impl_ValidMag_80
theorem Fs_impl_ValidMag {m : Int} {y_ : Bool} (h : impl_ValidMag m = some y_) : c_impl_ValidMag.F [.int .i64 m] = ⟨true, .bool y_, [.any]⟩ := by
  refine mkF_E rfl ?_
  dsimp only [impl_ValidMag] at h
  obtain ⟨y_1, hk1, h⟩ := bd_some h
  have fhk1 := Fs_impl_in hk1
  try simp only [go_sem] at fhk1
  obtain rfl := so_some h
  refine ⟨0, fun L hL => ?_⟩
  simp only [go_sem, ir69, fhk1]


def ir51_v : List Nat := [0, 1, 2]
def ir51 : AFn := ⟨1, 3, .seq (.region false [
    ⟨.var 1, 1, none, .box (.v 0)⟩,
    ⟨.var 2, 2, none, .mov (.c (.bool false))⟩])
 (.seq (.region false [
    ⟨.push, 3, none, .fldAddr 0 (.v 1)⟩,
    ⟨.push, 4, none, .load false 1 (.s 0)⟩,
    ⟨.push, 5, none, .call 67 [(.s 0)]⟩,
    ⟨.push, 6, none, .mov (.s 0)⟩,
    ⟨.push, 7, (some ((.s 0), true)), .fldAddr 1 (.v 1)⟩,
    ⟨.push, 8, (some ((.s 1), true)), .load false 1 (.s 0)⟩,
    ⟨.push, 9, (some ((.s 2), true)), .call 68 [(.s 0)]⟩,
    ⟨.push, 10, none, .pick (.s 3) (.s 0) (.c (.bool false))⟩,
    ⟨.push, 11, none, .mov (.s 0)⟩,
    ⟨.push, 12, (some ((.s 0), true)), .fldAddr 2 (.v 1)⟩,
    ⟨.push, 13, (some ((.s 1), true)), .load false 1 (.s 0)⟩,
    ⟨.push, 14, (some ((.s 2), true)), .call 68 [(.s 0)]⟩,
    ⟨.push, 15, none, .pick (.s 3) (.s 0) (.c (.bool false))⟩,
    ⟨.push, 16, none, .mov (.s 0)⟩,
    ⟨.push, 17, (some ((.s 0), true)), .fldAddr 3 (.v 1)⟩,
    ⟨.push, 18, (some ((.s 1), true)), .load false 1 (.s 0)⟩,
    ⟨.push, 19, (some ((.s 2), true)), .call 69 [(.s 0)]⟩,
    ⟨.push, 20, none, .pick (.s 3) (.s 0) (.c (.bool false))⟩,
    ⟨.var 2, 2, none, .mov (.s 0)⟩])
 (.ret)), [.t 2]⟩
noncomputable def t_impl_isEstimate : List (Nat × Ctr) := [(67, c_impl_ValidTime), (68, c_impl_IsName), (69, c_impl_ValidMag)]
theorem lk_impl_isEstimate_67 : look t_impl_isEstimate 67 = some c_impl_ValidTime := rfl
theorem lk_impl_isEstimate_68 : look t_impl_isEstimate 68 = some c_impl_IsName := rfl
theorem lk_impl_isEstimate_69 : look t_impl_isEstimate 69 = some c_impl_ValidMag := rfl
noncomputable def c_impl_isEstimate : Ctr := mkF t_impl_isEstimate ir51 [.bor]
theorem s_impl_isEstimate : Sound Try.prog 51 c_impl_isEstimate := mkF_sound _ rfl (snd_cons s_impl_ValidTime (snd_cons s_impl_IsName (snd_cons s_impl_ValidMag snd_nil))) (by kernel_rfl : chkFn Try.prog 51 ir51 ir51_v = true)
theorem M_impl_isEstimate : c_impl_isEstimate.modes = [.bor] := rfl
theorem Fl_impl_isEstimate : c_impl_isEstimate.flat = true := rfl
attribute [go_sem] M_impl_isEstimate Fl_impl_isEstimate
attribute [go_sem] lk_impl_isEstimate_67 lk_impl_isEstimate_68 lk_impl_isEstimate_69
theorem Fs_impl_isEstimate {e_ : Estimate} {y_ : Bool} (h : impl_isEstimate e_ = some y_) : c_impl_isEstimate.F [Estimate_av e_] = ⟨true, .bool y_, [.any]⟩ := by
  refine mkF_E rfl ?_
  dsimp only [impl_isEstimate] at h
  obtain ⟨y_1, hk1, h⟩ := bd_some h
  have fhk1 := Fs_impl_ValidTime hk1
  try simp only [go_sem] at fhk1
  obtain ⟨hk2, h⟩ := ck_some h
  rcases or_split hk2 with ⟨ghk2, hk2⟩ | ghk2
  · try simp only [go_sem, n1, n2, n3, n4] at ghk2
    all_goals
    obtain ⟨y_2, hhk2⟩ := Option.isSome_iff_exists.1 hk2
    have fhk2 := Fs_impl_IsName hhk2
    try simp only [go_sem, ghk2] at fhk2
    obtain ⟨hk3, h⟩ := ck_some h
    rcases or_split hk3 with ⟨ghk3, hk3⟩ | ghk3
    · try simp only [go_sem, n1, n2, n3, n4, ghk2, hhk2] at ghk3
      all_goals
      obtain ⟨y_3, hhk3⟩ := Option.isSome_iff_exists.1 hk3
      have fhk3 := Fs_impl_IsName hhk3
      try simp only [go_sem, ghk2, hhk2, ghk3] at fhk3
      obtain ⟨hk4, h⟩ := ck_some h
      rcases or_split hk4 with ⟨ghk4, hk4⟩ | ghk4
      · try simp only [go_sem, n1, n2, n3, n4, ghk2, hhk2, ghk3, hhk3] at ghk4
        all_goals
        obtain ⟨y_4, hhk4⟩ := Option.isSome_iff_exists.1 hk4
        have fhk4 := Fs_impl_ValidMag hhk4
        try simp only [go_sem, ghk2, hhk2, ghk3, hhk3, ghk4] at fhk4
        obtain rfl := so_some h
        refine ⟨0, fun L hL => ?_⟩
        simp only [go_sem, ir51, fhk1, ghk2, hhk2, fhk2, ghk3, hhk3, fhk3, ghk4, hhk4, fhk4]
      · rcases and_f ghk4 with ghk4a | ⟨ghk4a, ghk4b⟩
        · rcases and_f ghk4a with ghk4aa | ⟨ghk4aa, ghk4ab⟩
          · try simp only [go_sem, n1, n2, n3, n4, ghk2, hhk2, ghk3, hhk3] at ghk4aa
            all_goals
            obtain rfl := so_some h
            refine ⟨0, fun L hL => ?_⟩
            simp only [go_sem, ir51, fhk1, ghk2, hhk2, fhk2, ghk3, hhk3, fhk3, ghk4aa]
          · try simp only [go_sem, n1, n2, n3, n4, ghk2, hhk2, ghk3, hhk3] at ghk4aa
            all_goals
            try simp only [go_sem, n1, n2, n3, n4, ghk2, hhk2, ghk3, hhk3, ghk4aa] at ghk4ab
            all_goals
            obtain rfl := so_some h
            refine ⟨0, fun L hL => ?_⟩
            simp only [go_sem, ir51, fhk1, ghk2, hhk2, fhk2, ghk3, hhk3, fhk3, ghk4aa, ghk4ab]
        · obtain ⟨ghk4aa, ghk4ab⟩ := and_t ghk4a
          try simp only [go_sem, n1, n2, n3, n4, ghk2, hhk2, ghk3, hhk3] at ghk4aa
          all_goals
          try simp only [go_sem, n1, n2, n3, n4, ghk2, hhk2, ghk3, hhk3, ghk4aa] at ghk4ab
          all_goals
          try simp only [go_sem, n1, n2, n3, n4, ghk2, hhk2, ghk3, hhk3, ghk4aa, ghk4ab] at ghk4b
          all_goals
          obtain rfl := so_some h
          refine ⟨0, fun L hL => ?_⟩
          simp only [go_sem, ir51, fhk1, ghk2, hhk2, fhk2, ghk3, hhk3, fhk3, ghk4aa, ghk4ab, ghk4b]
    · rcases and_f ghk3 with ghk3a | ⟨ghk3a, ghk3b⟩
      · try simp only [go_sem, n1, n2, n3, n4, ghk2, hhk2] at ghk3a
        all_goals
        obtain ⟨hk4, h⟩ := ck_some h
        rcases or_split hk4 with ⟨ghk4, hk4⟩ | ghk4
        · try simp only [go_sem, n1, n2, n3, n4, ghk2, hhk2, ghk3a] at ghk4
          all_goals
          obtain ⟨y_4, hhk4⟩ := Option.isSome_iff_exists.1 hk4
          have fhk4 := Fs_impl_ValidMag hhk4
          try simp only [go_sem, ghk2, hhk2, ghk3a, ghk4] at fhk4
          obtain rfl := so_some h
          refine ⟨0, fun L hL => ?_⟩
          simp only [go_sem, ir51, fhk1, ghk2, hhk2, fhk2, ghk3a, ghk4, hhk4, fhk4]
        · rcases and_f ghk4 with ghk4a | ⟨ghk4a, ghk4b⟩
          · rcases and_f ghk4a with ghk4aa | ⟨ghk4aa, ghk4ab⟩
            · try simp only [go_sem, n1, n2, n3, n4, ghk2, hhk2, ghk3a] at ghk4aa
              all_goals
              obtain rfl := so_some h
              refine ⟨0, fun L hL => ?_⟩
              simp only [go_sem, ir51, fhk1, ghk2, hhk2, fhk2, ghk3a, ghk4aa]
            · try simp only [go_sem, n1, n2, n3, n4, ghk2, hhk2, ghk3a] at ghk4aa
              all_goals
              try simp only [go_sem, n1, n2, n3, n4, ghk2, hhk2, ghk3a, ghk4aa] at ghk4ab
              all_goals
              obtain rfl := so_some h
              refine ⟨0, fun L hL => ?_⟩
              simp only [go_sem, ir51, fhk1, ghk2, hhk2, fhk2, ghk3a, ghk4aa, ghk4ab]
          · obtain ⟨ghk4aa, ghk4ab⟩ := and_t ghk4a
            try simp only [go_sem, n1, n2, n3, n4, ghk2, hhk2, ghk3a] at ghk4aa
            all_goals
            try simp only [go_sem, n1, n2, n3, n4, ghk2, hhk2, ghk3a, ghk4aa] at ghk4ab
            all_goals
            try simp only [go_sem, n1, n2, n3, n4, ghk2, hhk2, ghk3a, ghk4aa, ghk4ab] at ghk4b
            all_goals
            obtain rfl := so_some h
            refine ⟨0, fun L hL => ?_⟩
            simp only [go_sem, ir51, fhk1, ghk2, hhk2, fhk2, ghk3a, ghk4aa, ghk4ab, ghk4b]
      · try simp only [go_sem, n1, n2, n3, n4, ghk2, hhk2] at ghk3a
        all_goals
        try simp only [go_sem, n1, n2, n3, n4, ghk2, hhk2, ghk3a] at ghk3b
        all_goals
        obtain ⟨hk4, h⟩ := ck_some h
        rcases or_split hk4 with ⟨ghk4, hk4⟩ | ghk4
        · try simp only [go_sem, n1, n2, n3, n4, ghk2, hhk2, ghk3a, ghk3b] at ghk4
          all_goals
          obtain ⟨y_4, hhk4⟩ := Option.isSome_iff_exists.1 hk4
          have fhk4 := Fs_impl_ValidMag hhk4
          try simp only [go_sem, ghk2, hhk2, ghk3a, ghk3b, ghk4] at fhk4
          obtain rfl := so_some h
          refine ⟨0, fun L hL => ?_⟩
          simp only [go_sem, ir51, fhk1, ghk2, hhk2, fhk2, ghk3a, ghk3b, ghk4, hhk4, fhk4]
        · rcases and_f ghk4 with ghk4a | ⟨ghk4a, ghk4b⟩
          · rcases and_f ghk4a with ghk4aa | ⟨ghk4aa, ghk4ab⟩
            · try simp only [go_sem, n1, n2, n3, n4, ghk2, hhk2, ghk3a, ghk3b] at ghk4aa
              all_goals
              obtain rfl := so_some h
              refine ⟨0, fun L hL => ?_⟩
              simp only [go_sem, ir51, fhk1, ghk2, hhk2, fhk2, ghk3a, ghk3b, ghk4aa]
            · try simp only [go_sem, n1, n2, n3, n4, ghk2, hhk2, ghk3a, ghk3b] at ghk4aa
              all_goals
              try simp only [go_sem, n1, n2, n3, n4, ghk2, hhk2, ghk3a, ghk3b, ghk4aa] at ghk4ab
              all_goals
              obtain rfl := so_some h
              refine ⟨0, fun L hL => ?_⟩
              simp only [go_sem, ir51, fhk1, ghk2, hhk2, fhk2, ghk3a, ghk3b, ghk4aa, ghk4ab]
          · obtain ⟨ghk4aa, ghk4ab⟩ := and_t ghk4a
            try simp only [go_sem, n1, n2, n3, n4, ghk2, hhk2, ghk3a, ghk3b] at ghk4aa
            all_goals
            try simp only [go_sem, n1, n2, n3, n4, ghk2, hhk2, ghk3a, ghk3b, ghk4aa] at ghk4ab
            all_goals
            try simp only [go_sem, n1, n2, n3, n4, ghk2, hhk2, ghk3a, ghk3b, ghk4aa, ghk4ab] at ghk4b
            all_goals
            obtain rfl := so_some h
            refine ⟨0, fun L hL => ?_⟩
            simp only [go_sem, ir51, fhk1, ghk2, hhk2, fhk2, ghk3a, ghk3b, ghk4aa, ghk4ab, ghk4b]
  · try simp only [go_sem, n1, n2, n3, n4] at ghk2
    all_goals
    obtain ⟨hk3, h⟩ := ck_some h
    rcases or_split hk3 with ⟨ghk3, hk3⟩ | ghk3
    · try simp only [go_sem, n1, n2, n3, n4, ghk2] at ghk3
      all_goals
      obtain ⟨y_3, hhk3⟩ := Option.isSome_iff_exists.1 hk3
      have fhk3 := Fs_impl_IsName hhk3
      try simp only [go_sem, ghk2, ghk3] at fhk3
      obtain ⟨hk4, h⟩ := ck_some h
      rcases or_split hk4 with ⟨ghk4, hk4⟩ | ghk4
      · try simp only [go_sem, n1, n2, n3, n4, ghk2, ghk3, hhk3] at ghk4
        all_goals
        obtain ⟨y_4, hhk4⟩ := Option.isSome_iff_exists.1 hk4
        have fhk4 := Fs_impl_ValidMag hhk4
        try simp only [go_sem, ghk2, ghk3, hhk3, ghk4] at fhk4
        obtain rfl := so_some h
        refine ⟨0, fun L hL => ?_⟩
        simp only [go_sem, ir51, fhk1, ghk2, ghk3, hhk3, fhk3, ghk4, hhk4, fhk4]
      · rcases and_f ghk4 with ghk4a | ⟨ghk4a, ghk4b⟩
        · rcases and_f ghk4a with ghk4aa | ⟨ghk4aa, ghk4ab⟩
          · try simp only [go_sem, n1, n2, n3, n4, ghk2, ghk3, hhk3] at ghk4aa
            all_goals
            obtain rfl := so_some h
            refine ⟨0, fun L hL => ?_⟩
            simp only [go_sem, ir51, fhk1, ghk2, ghk3, hhk3, fhk3, ghk4aa]
          · try simp only [go_sem, n1, n2, n3, n4, ghk2, ghk3, hhk3] at ghk4aa
            all_goals
            try simp only [go_sem, n1, n2, n3, n4, ghk2, ghk3, hhk3, ghk4aa] at ghk4ab
            all_goals
            obtain rfl := so_some h
            refine ⟨0, fun L hL => ?_⟩
            simp only [go_sem, ir51, fhk1, ghk2, ghk3, hhk3, fhk3, ghk4aa, ghk4ab]
        · obtain ⟨ghk4aa, ghk4ab⟩ := and_t ghk4a
          try simp only [go_sem, n1, n2, n3, n4, ghk2, ghk3, hhk3] at ghk4aa
          all_goals
          try simp only [go_sem, n1, n2, n3, n4, ghk2, ghk3, hhk3, ghk4aa] at ghk4ab
          all_goals
          try simp only [go_sem, n1, n2, n3, n4, ghk2, ghk3, hhk3, ghk4aa, ghk4ab] at ghk4b
          all_goals
          obtain rfl := so_some h
          refine ⟨0, fun L hL => ?_⟩
          simp only [go_sem, ir51, fhk1, ghk2, ghk3, hhk3, fhk3, ghk4aa, ghk4ab, ghk4b]
    · rcases and_f ghk3 with ghk3a | ⟨ghk3a, ghk3b⟩
      · try simp only [go_sem, n1, n2, n3, n4, ghk2] at ghk3a
        all_goals
        obtain ⟨hk4, h⟩ := ck_some h
        rcases or_split hk4 with ⟨ghk4, hk4⟩ | ghk4
        · try simp only [go_sem, n1, n2, n3, n4, ghk2, ghk3a] at ghk4
          all_goals
          obtain ⟨y_4, hhk4⟩ := Option.isSome_iff_exists.1 hk4
          have fhk4 := Fs_impl_ValidMag hhk4
          try simp only [go_sem, ghk2, ghk3a, ghk4] at fhk4
          obtain rfl := so_some h
          refine ⟨0, fun L hL => ?_⟩
          simp only [go_sem, ir51, fhk1, ghk2, ghk3a, ghk4, hhk4, fhk4]
        · rcases and_f ghk4 with ghk4a | ⟨ghk4a, ghk4b⟩
          · rcases and_f ghk4a with ghk4aa | ⟨ghk4aa, ghk4ab⟩
            · try simp only [go_sem, n1, n2, n3, n4, ghk2, ghk3a] at ghk4aa
              all_goals
              obtain rfl := so_some h
              refine ⟨0, fun L hL => ?_⟩
              simp only [go_sem, ir51, fhk1, ghk2, ghk3a, ghk4aa]
            · try simp only [go_sem, n1, n2, n3, n4, ghk2, ghk3a] at ghk4aa
              all_goals
              try simp only [go_sem, n1, n2, n3, n4, ghk2, ghk3a, ghk4aa] at ghk4ab
              all_goals
              obtain rfl := so_some h
              refine ⟨0, fun L hL => ?_⟩
              simp only [go_sem, ir51, fhk1, ghk2, ghk3a, ghk4aa, ghk4ab]
          · obtain ⟨ghk4aa, ghk4ab⟩ := and_t ghk4a
            try simp only [go_sem, n1, n2, n3, n4, ghk2, ghk3a] at ghk4aa
            all_goals
            try simp only [go_sem, n1, n2, n3, n4, ghk2, ghk3a, ghk4aa] at ghk4ab
            all_goals
            try simp only [go_sem, n1, n2, n3, n4, ghk2, ghk3a, ghk4aa, ghk4ab] at ghk4b
            all_goals
            obtain rfl := so_some h
            refine ⟨0, fun L hL => ?_⟩
            simp only [go_sem, ir51, fhk1, ghk2, ghk3a, ghk4aa, ghk4ab, ghk4b]
      · try simp only [go_sem, n1, n2, n3, n4, ghk2] at ghk3a
        all_goals
        try simp only [go_sem, n1, n2, n3, n4, ghk2, ghk3a] at ghk3b
        all_goals
        obtain ⟨hk4, h⟩ := ck_some h
        rcases or_split hk4 with ⟨ghk4, hk4⟩ | ghk4
        · try simp only [go_sem, n1, n2, n3, n4, ghk2, ghk3a, ghk3b] at ghk4
          all_goals
          obtain ⟨y_4, hhk4⟩ := Option.isSome_iff_exists.1 hk4
          have fhk4 := Fs_impl_ValidMag hhk4
          try simp only [go_sem, ghk2, ghk3a, ghk3b, ghk4] at fhk4
          obtain rfl := so_some h
          refine ⟨0, fun L hL => ?_⟩
          simp only [go_sem, ir51, fhk1, ghk2, ghk3a, ghk3b, ghk4, hhk4, fhk4]
        · rcases and_f ghk4 with ghk4a | ⟨ghk4a, ghk4b⟩
          · rcases and_f ghk4a with ghk4aa | ⟨ghk4aa, ghk4ab⟩
            · try simp only [go_sem, n1, n2, n3, n4, ghk2, ghk3a, ghk3b] at ghk4aa
              all_goals
              obtain rfl := so_some h
              refine ⟨0, fun L hL => ?_⟩
              simp only [go_sem, ir51, fhk1, ghk2, ghk3a, ghk3b, ghk4aa]
            · try simp only [go_sem, n1, n2, n3, n4, ghk2, ghk3a, ghk3b] at ghk4aa
              all_goals
              try simp only [go_sem, n1, n2, n3, n4, ghk2, ghk3a, ghk3b, ghk4aa] at ghk4ab
              all_goals
              obtain rfl := so_some h
              refine ⟨0, fun L hL => ?_⟩
              simp only [go_sem, ir51, fhk1, ghk2, ghk3a, ghk3b, ghk4aa, ghk4ab]
          · obtain ⟨ghk4aa, ghk4ab⟩ := and_t ghk4a
            try simp only [go_sem, n1, n2, n3, n4, ghk2, ghk3a, ghk3b] at ghk4aa
            all_goals
            try simp only [go_sem, n1, n2, n3, n4, ghk2, ghk3a, ghk3b, ghk4aa] at ghk4ab
            all_goals
            try simp only [go_sem, n1, n2, n3, n4, ghk2, ghk3a, ghk3b, ghk4aa, ghk4ab] at ghk4b
            all_goals
            obtain rfl := so_some h
            refine ⟨0, fun L hL => ?_⟩
            simp only [go_sem, ir51, fhk1, ghk2, ghk3a, ghk3b, ghk4aa, ghk4ab, ghk4b]


def ir81_v : List Nat := [0, 2]
def ir81 : AFn := ⟨1, 2, .seq (.region false [
    ⟨.var 1, 2, none, .mov (.c (.bool false))⟩])
 (.seq (.region false [
    ⟨.push, 3, none, .mov (.v 0)⟩,
    ⟨.push, 4, none, .mov (.v 0)⟩,
    ⟨.push, 5, none, .bin false .neq (.s 1) (.s 0)⟩,
    ⟨.var 1, 2, none, .mov (.s 0)⟩])
 (.ret)), [.t 1]⟩
noncomputable def t_cmp_isNaN_int64 : List (Nat × Ctr) := []
noncomputable def c_cmp_isNaN_int64 : Ctr := mkF t_cmp_isNaN_int64 ir81 [.bor]
theorem s_cmp_isNaN_int64 : Sound Try.prog 81 c_cmp_isNaN_int64 := mkF_sound _ rfl snd_nil (by kernel_rfl : chkFn Try.prog 81 ir81 ir81_v = true)
theorem M_cmp_isNaN_int64 : c_cmp_isNaN_int64.modes = [.bor] := rfl
theorem Fl_cmp_isNaN_int64 : c_cmp_isNaN_int64.flat = true := rfl
attribute [go_sem] M_cmp_isNaN_int64 Fl_cmp_isNaN_int64
theorem Fs_cmp_isNaN_int64 {x : Int} {y_ : Bool} (h : cmp_isNaN_int64 x = some y_) : c_cmp_isNaN_int64.F [.int .i64 x] = ⟨true, .bool y_, [.any]⟩ := by
  refine mkF_E rfl ?_
  dsimp only [cmp_isNaN_int64] at h
  obtain rfl := so_some h
  refine ⟨0, fun L hL => ?_⟩
  simp only [go_sem, ir81]


def ir71_v : List Nat := [0, 1, 4, 5, 6]
def ir71 : AFn := ⟨2, 5, .seq (.region false [
    ⟨.var 2, 4, none, .mov (.c (.int .i64 (0)))⟩])
 (.seq (.region false [
    ⟨.push, 7, none, .mov (.v 0)⟩,
    ⟨.push, 8, none, .call 81 [(.s 0)]⟩,
    ⟨.var 3, 5, none, .mov (.s 0)⟩])
 (.seq (.region false [
    ⟨.push, 9, none, .mov (.v 1)⟩,
    ⟨.push, 10, none, .call 81 [(.s 0)]⟩,
    ⟨.var 4, 6, none, .mov (.s 0)⟩])
 (.seq (.test false [
    ⟨.push, 11, none, .mov (.v 3)⟩] (.s 0)
  (.seq (.test false [
      ⟨.push, 12, none, .mov (.v 4)⟩] (.s 0)
    (.seq (.region false [
        ⟨.var 2, 4, none, .mov (.c (.int .i64 (0)))⟩])
     (.ret))
    (.skip))
   (.seq (.region false [
      ⟨.var 2, 4, none, .mov (.c (.int .i64 (-1)))⟩])
   (.ret)))
  (.skip))
 (.seq (.test false [
    ⟨.push, 13, none, .mov (.v 4)⟩] (.s 0)
  (.seq (.region false [
      ⟨.var 2, 4, none, .mov (.c (.int .i64 (1)))⟩])
   (.ret))
  (.skip))
 (.seq (.test false [
    ⟨.push, 14, none, .mov (.v 0)⟩,
    ⟨.push, 15, none, .mov (.v 1)⟩,
    ⟨.push, 16, none, .bin false .lss (.s 1) (.s 0)⟩] (.s 0)
  (.seq (.region false [
      ⟨.var 2, 4, none, .mov (.c (.int .i64 (-1)))⟩])
   (.ret))
  (.skip))
 (.seq (.test false [
    ⟨.push, 17, none, .mov (.v 0)⟩,
    ⟨.push, 18, none, .mov (.v 1)⟩,
    ⟨.push, 19, none, .bin false .gtr (.s 1) (.s 0)⟩] (.s 0)
  (.seq (.region false [
      ⟨.var 2, 4, none, .mov (.c (.int .i64 (1)))⟩])
   (.ret))
  (.skip))
 (.seq (.region false [
    ⟨.var 2, 4, none, .mov (.c (.int .i64 (0)))⟩])
 (.ret)))))))), [.t 2]⟩
noncomputable def t_cmp_Compare_int64 : List (Nat × Ctr) := [(81, c_cmp_isNaN_int64)]
theorem lk_cmp_Compare_int64_81 : look t_cmp_Compare_int64 81 = some c_cmp_isNaN_int64 := rfl
noncomputable def c_cmp_Compare_int64 : Ctr := mkF t_cmp_Compare_int64 ir71 [.bor, .bor]
theorem s_cmp_Compare_int64 : Sound Try.prog 71 c_cmp_Compare_int64 := mkF_sound _ rfl (snd_cons s_cmp_isNaN_int64 snd_nil) (by kernel_rfl : chkFn Try.prog 71 ir71 ir71_v = true)
theorem M_cmp_Compare_int64 : c_cmp_Compare_int64.modes = [.bor, .bor] := rfl
theorem Fl_cmp_Compare_int64 : c_cmp_Compare_int64.flat = true := rfl
attribute [go_sem] M_cmp_Compare_int64 Fl_cmp_Compare_int64
attribute [go_sem] lk_cmp_Compare_int64_81
theorem Fs_cmp_Compare_int64 {x : Int} {y : Int} {y_ : Int} (h : cmp_Compare_int64 x y = some y_) : c_cmp_Compare_int64.F [.int .i64 x, .int .i64 y] = ⟨true, .int .i64 y_, [.any, .any]⟩ := by
  refine mkF_E rfl ?_
  dsimp only [cmp_Compare_int64] at h
  obtain ⟨y_1, hk1, h⟩ := bd_some h
  have fhk1 := Fs_cmp_isNaN_int64 hk1
  try simp only [go_sem] at fhk1
  obtain ⟨y_2, hk2, h⟩ := bd_some h
  have fhk2 := Fs_cmp_isNaN_int64 hk2
  try simp only [go_sem] at fhk2
  rcases it_some h with ⟨hk3, h⟩ | ⟨hk3, h⟩
  · try simp only [go_sem, n1, n2, n3, n4] at hk3
    all_goals
    rcases it_some h with ⟨hk4, h⟩ | ⟨hk4, h⟩
    · try simp only [go_sem, n1, n2, n3, n4, hk3] at hk4
      all_goals
      obtain rfl := so_some h
      refine ⟨0, fun L hL => ?_⟩
      simp only [go_sem, ir71, fhk1, fhk2, hk3, hk4]
    · try simp only [go_sem, n1, n2, n3, n4, hk3] at hk4
      all_goals
      obtain rfl := so_some h
      refine ⟨0, fun L hL => ?_⟩
      simp only [go_sem, ir71, fhk1, fhk2, hk3, hk4]
  · try simp only [go_sem, n1, n2, n3, n4] at hk3
    all_goals
    rcases it_some h with ⟨hk5, h⟩ | ⟨hk5, h⟩
    · try simp only [go_sem, n1, n2, n3, n4, hk3] at hk5
      all_goals
      obtain rfl := so_some h
      refine ⟨0, fun L hL => ?_⟩
      simp only [go_sem, ir71, fhk1, fhk2, hk3, hk5]
    · try simp only [go_sem, n1, n2, n3, n4, hk3] at hk5
      all_goals
      rcases it_some h with ⟨hk6, h⟩ | ⟨hk6, h⟩
      · try simp only [go_sem, n1, n2, n3, n4, hk3, hk5] at hk6
        all_goals
        obtain rfl := so_some h
        refine ⟨0, fun L hL => ?_⟩
        simp only [go_sem, ir71, fhk1, fhk2, hk3, hk5, hk6]
      · try simp only [go_sem, n1, n2, n3, n4, hk3, hk5] at hk6
        all_goals
        rcases it_some h with ⟨hk7, h⟩ | ⟨hk7, h⟩
        · try simp only [go_sem, n1, n2, n3, n4, hk3, hk5, hk6] at hk7
          all_goals
          obtain rfl := so_some h
          refine ⟨0, fun L hL => ?_⟩
          simp only [go_sem, ir71, fhk1, fhk2, hk3, hk5, hk6, hk7]
        · try simp only [go_sem, n1, n2, n3, n4, hk3, hk5, hk6] at hk7
          all_goals
          obtain rfl := so_some h
          refine ⟨0, fun L hL => ?_⟩
          simp only [go_sem, ir71, fhk1, fhk2, hk3, hk5, hk6, hk7]


theorem s_hCmp : Sound Try.prog 94 c_hCmp := hCmp_sound Try.func94 (by kernel_rfl) (by kernel_rfl) (by kernel_rfl) (by kernel_rfl)

def ir82_v : List Nat := [0, 1, 4]
def ir82 : AFn := ⟨2, 3, .seq (.region false [
    ⟨.var 2, 4, none, .mov (.c (.int .i64 (0)))⟩])
 (.seq (.region false [
    ⟨.push, 5, none, .mov (.v 0)⟩,
    ⟨.push, 6, none, .mov (.v 1)⟩,
    ⟨.push, 7, none, .call 94 [(.s 1), (.s 0)]⟩,
    ⟨.var 2, 4, none, .mov (.s 0)⟩])
 (.ret)), [.t 2]⟩
noncomputable def t_internal_bytealg_CompareString : List (Nat × Ctr) := [(94, c_hCmp)]
theorem lk_internal_bytealg_CompareString_94 : look t_internal_bytealg_CompareString 94 = some c_hCmp := rfl
noncomputable def c_internal_bytealg_CompareString : Ctr := mkF t_internal_bytealg_CompareString ir82 [.bor, .bor]
theorem s_internal_bytealg_CompareString : Sound Try.prog 82 c_internal_bytealg_CompareString := mkF_sound _ rfl (snd_cons s_hCmp snd_nil) (by kernel_rfl : chkFn Try.prog 82 ir82 ir82_v = true)
theorem M_internal_bytealg_CompareString : c_internal_bytealg_CompareString.modes = [.bor, .bor] := rfl
theorem Fl_internal_bytealg_CompareString : c_internal_bytealg_CompareString.flat = true := rfl
attribute [go_sem] M_internal_bytealg_CompareString Fl_internal_bytealg_CompareString
attribute [go_sem] lk_internal_bytealg_CompareString_94
theorem Fs_internal_bytealg_CompareString {a : List UInt8} {b : List UInt8} {y_ : Int} (h : internal_bytealg_CompareString a b = some y_) : c_internal_bytealg_CompareString.F [.str a, .str b] = ⟨true, .int .i64 y_, [.any, .any]⟩ := by
  refine mkF_E rfl ?_
  dsimp only [internal_bytealg_CompareString] at h
  obtain ⟨y_1, hk1, h⟩ := bd_some h
  have fhk1 := Fs_hCmp hk1
  try simp only [go_sem] at fhk1
  obtain rfl := so_some h
  refine ⟨0, fun L hL => ?_⟩
  simp only [go_sem, ir82, fhk1]


def ir72_v : List Nat := [0, 1, 4]
def ir72 : AFn := ⟨2, 3, .seq (.region false [
    ⟨.var 2, 4, none, .mov (.c (.int .i64 (0)))⟩])
 (.seq (.region false [
    ⟨.push, 5, none, .mov (.v 0)⟩,
    ⟨.push, 6, none, .mov (.v 1)⟩,
    ⟨.push, 7, none, .call 82 [(.s 1), (.s 0)]⟩,
    ⟨.var 2, 4, none, .mov (.s 0)⟩])
 (.ret)), [.t 2]⟩
noncomputable def t_strings_Compare : List (Nat × Ctr) := [(82, c_internal_bytealg_CompareString)]
theorem lk_strings_Compare_82 : look t_strings_Compare 82 = some c_internal_bytealg_CompareString := rfl
noncomputable def c_strings_Compare : Ctr := mkF t_strings_Compare ir72 [.bor, .bor]
theorem s_strings_Compare : Sound Try.prog 72 c_strings_Compare := mkF_sound _ rfl (snd_cons s_internal_bytealg_CompareString snd_nil) (by kernel_rfl : chkFn Try.prog 72 ir72 ir72_v = true)
theorem M_strings_Compare : c_strings_Compare.modes = [.bor, .bor] := rfl
theorem Fl_strings_Compare : c_strings_Compare.flat = true := rfl
attribute [go_sem] M_strings_Compare Fl_strings_Compare
attribute [go_sem] lk_strings_Compare_82
theorem Fs_strings_Compare {a : List UInt8} {b : List UInt8} {y_ : Int} (h : strings_Compare a b = some y_) : c_strings_Compare.F [.str a, .str b] = ⟨true, .int .i64 y_, [.any, .any]⟩ := by
  refine mkF_E rfl ?_
  dsimp only [strings_Compare] at h
  obtain ⟨y_1, hk1, h⟩ := bd_some h
  have fhk1 := Fs_internal_bytealg_CompareString hk1
  try simp only [go_sem] at fhk1
  obtain rfl := so_some h
  refine ⟨0, fun L hL => ?_⟩
  simp only [go_sem, ir72, fhk1]


def ir70_b0 : IR := .seq (.region false [
    ⟨.var 7, 9, none, .bin false .lss (.v 6) (.v 5)⟩])
 (.seq (.cond (.v 7) (.skip)
  (.exit 0))
 (.seq (.block 1 (.seq (.region false [
      ⟨.push, 10, none, .ixAddr 1 (.v 4) (.v 6)⟩,
      ⟨.push, 11, none, .load false 1 (.s 0)⟩,
      ⟨.var 3, 5, none, .mov (.s 0)⟩])
   (.test false [
     ⟨.push, 12, none, .mov (.v 3)⟩,
     ⟨.push, 13, none, .mov (.v 2)⟩,
     ⟨.push, 14, none, .bin false .neq (.s 1) (.s 0)⟩] (.s 0)
   (.seq (.region false [
       ⟨.push, 15, none, .mov (.v 3)⟩,
       ⟨.var 1, 2, none, .mov (.s 0)⟩])
    (.ret))
   (.skip))))
 (.region false [
   ⟨.push, 16, none, .bin false .add (.v 6) (.c (.int .i64 (1)))⟩,
   ⟨.var 6, 8, none, .mov (.s 0)⟩])))
def ir70_k0 : List Bool := [false, false, true, false, true, true, true, false]
def ir70_o0 : List Bool := [false, false, true, false, false, false, false, false]
def ir70_r0 : List Bool := [false, true, false, false, false, false, false, false]
def ir70_v : List Nat := [0, 2, 3, 5, 6, 7, 8, 9]
def ir70 : AFn := ⟨1, 8, .seq (.region false [
    ⟨.var 1, 2, none, .mov (.c (.int .i64 (0)))⟩])
 (.seq (.region false [
    ⟨.var 2, 3, none, .mov (.c (.int .i64 (0)))⟩])
 (.seq (.seq (.region false [
     ⟨.var 4, 6, none, .mov (.v 0)⟩,
     ⟨.var 5, 7, none, .len false (.v 4)⟩,
     ⟨.var 6, 8, none, .mov (.c (.int .i64 (0)))⟩])
  (.block 0 (.loop ir70_k0 ir70_o0 ir70_r0 ir70_b0)))
 (.seq (.region false [
    ⟨.push, 17, none, .mov (.v 2)⟩,
    ⟨.var 1, 2, none, .mov (.s 0)⟩])
 (.ret)))), [.t 1]⟩
noncomputable def t_cmp_Or_int : List (Nat × Ctr) := []
noncomputable def c_cmp_Or_int : Ctr := mkF t_cmp_Or_int ir70 [.bor]
theorem s_cmp_Or_int : Sound Try.prog 70 c_cmp_Or_int := mkF_sound _ rfl snd_nil (by kernel_rfl : chkFn Try.prog 70 ir70 ir70_v = true)
theorem M_cmp_Or_int : c_cmp_Or_int.modes = [.bor] := rfl
theorem Fl_cmp_Or_int : c_cmp_Or_int.flat = true := rfl
attribute [go_sem] M_cmp_Or_int Fl_cmp_Or_int
def E_cmp_Or_int_l1 (zero : Int) (t6 : List Int) (t7 : Int) : Int → St
  | t8 => ⟨[.any, .any, .int .i64 zero, .any, .sl 1 (List.map (AV.int .i64) t6), .int .i64 t7, .int .i64 t8, .any], [], [], true⟩
def R_cmp_Or_int_l1 (zero : Int) (t6 : List Int) (t7 : Int) : (Unit ⊕ Int) → Res
  | .inl y => (.exit 0, ⟨[.any, .any, .int .i64 zero, .any, .any, .any, .any, .any], [], [], true⟩)
  | .inr y => (.ret, ⟨[.any, .int .i64 y, .any, .any, .any, .any, .any, .any], [], [], true⟩)
theorem cmp_Or_int_l1_ex {zero : Int} {t6 : List Int} {t7 : Int} {sgm_ : Int} {rho_ : Unit ⊕ Int} (h : whileE (cmp_Or_int_l1 zero t6 t7) sgm_ = some rho_) : ∃ L0, ∀ L, L0 ≤ L → iter (exec (look t_cmp_Or_int) L ir70_b0) ir70_k0 ir70_o0 ir70_r0 L (E_cmp_Or_int_l1 zero t6 t7 sgm_) = R_cmp_Or_int_l1 zero t6 t7 rho_ := by
  refine loop_ex (E := E_cmp_Or_int_l1 zero t6 t7) (R := R_cmp_Or_int_l1 zero t6 t7) (fun y => by first | (intro c; cases c) | (rcases y with y | y <;> (intro c; cases c)) | (rcases y with y | y | y <;> (intro c; cases c))) ?_ h
  clear h
  intro t8 o_ h
  dsimp only [cmp_Or_int_l1] at h
  rcases it_some h with ⟨hk1, h⟩ | ⟨hk1, h⟩
  · try simp only [go_sem, n1, n2, n3, n4] at hk1
    all_goals
    obtain ⟨hk2, h⟩ := ck_some h
    have lhk2 := ix_lt hk2
    have xhk2 := getD_mapD (AV.int .i64) t6 lhk2
    try simp only [go_sem] at lhk2
    try simp only [go_sem] at xhk2
    try simp only [go_sem, n1, n2, n3, n4, hk1] at hk2
    all_goals
    rcases it_some h with ⟨hk3, h⟩ | ⟨hk3, h⟩
    · try simp only [go_sem, n1, n2, n3, n4, hk1, hk2] at hk3
      all_goals
      obtain rfl := so_some h
      refine ⟨0, fun L hL => ?_⟩
      simp only [go_sem, ir70, E_cmp_Or_int_l1, R_cmp_Or_int_l1, ir70_b0, ir70_k0, ir70_o0, ir70_r0, hk1, hk2, lhk2, xhk2, hk3]
    · try simp only [go_sem, n1, n2, n3, n4, hk1, hk2] at hk3
      all_goals
      obtain rfl := so_some h
      refine ⟨0, fun L hL => ?_⟩
      simp only [go_sem, ir70, E_cmp_Or_int_l1, R_cmp_Or_int_l1, ir70_b0, ir70_k0, ir70_o0, ir70_r0, hk1, hk2, lhk2, xhk2, hk3]
  · try simp only [go_sem, n1, n2, n3, n4] at hk1
    all_goals
    obtain rfl := so_some h
    refine ⟨0, fun L hL => ?_⟩
    simp only [go_sem, ir70, E_cmp_Or_int_l1, R_cmp_Or_int_l1, ir70_b0, ir70_k0, ir70_o0, ir70_r0, hk1]

theorem Fs_cmp_Or_int {vals : List Int} {y_ : Int} (h : cmp_Or_int vals = some y_) : c_cmp_Or_int.F [.sl 1 (List.map (AV.int .i64) vals)] = ⟨true, .int .i64 y_, [.any]⟩ := by
  refine mkF_E rfl ?_
  dsimp only [cmp_Or_int] at h
  obtain ⟨y_4, hk4, h⟩ := bd_some h
  obtain ⟨Lhk4, ehk4⟩ := cmp_Or_int_l1_ex hk4
  rcases y_4 with y_4a | y_4b
  · dsimp only at h
    obtain rfl := so_some h
    refine ⟨Lhk4, fun L hL => ?_⟩
    have ehk4 := ehk4 L (by omega)
    try simp only [go_sem, E_cmp_Or_int_l1, R_cmp_Or_int_l1, ir70_k0, ir70_o0, ir70_r0] at ehk4
    simp only [go_sem, ir70, E_cmp_Or_int_l1, R_cmp_Or_int_l1, ir70_k0, ir70_o0, ir70_r0, ehk4]
  · dsimp only at h
    obtain rfl := so_some h
    refine ⟨Lhk4, fun L hL => ?_⟩
    have ehk4 := ehk4 L (by omega)
    try simp only [go_sem, E_cmp_Or_int_l1, R_cmp_Or_int_l1, ir70_k0, ir70_o0, ir70_r0] at ehk4
    simp only [go_sem, ir70, E_cmp_Or_int_l1, R_cmp_Or_int_l1, ir70_k0, ir70_o0, ir70_r0, ehk4]


def ir52_v : List Nat := [0, 1, 2, 3, 4]
def ir52 : AFn := ⟨2, 5, .seq (.region false [
    ⟨.var 2, 2, none, .box (.v 0)⟩,
    ⟨.var 3, 3, none, .box (.v 1)⟩,
    ⟨.var 4, 4, none, .mov (.c (.int .i64 (0)))⟩])
 (.seq (.anyo 17 [
    ⟨.slot 0, 5, none, .fldAddr 0 (.v 2)⟩,
    ⟨.slot 1, 6, none, .load false 1 (.s 0)⟩,
    ⟨.slot 2, 7, none, .fldAddr 0 (.v 3)⟩,
    ⟨.slot 3, 8, none, .load false 1 (.s 2)⟩,
    ⟨.slot 4, 9, none, .callp 71 [(.s 1), (.s 3)]⟩,
    ⟨.slot 5, 10, none, .fldAddr 1 (.v 2)⟩,
    ⟨.slot 6, 11, none, .load false 1 (.s 5)⟩,
    ⟨.slot 7, 12, none, .fldAddr 1 (.v 3)⟩,
    ⟨.slot 8, 13, none, .load false 1 (.s 7)⟩,
    ⟨.slot 9, 14, none, .callp 72 [(.s 6), (.s 8)]⟩,
    ⟨.slot 10, 15, none, .fldAddr 2 (.v 2)⟩,
    ⟨.slot 11, 16, none, .load false 1 (.s 10)⟩,
    ⟨.slot 12, 17, none, .fldAddr 2 (.v 3)⟩,
    ⟨.slot 13, 18, none, .load false 1 (.s 12)⟩,
    ⟨.slot 14, 19, none, .callp 72 [(.s 11), (.s 13)]⟩,
    ⟨.slot 15, 20, none, .pur (.mkSl 1 (.int .i64 (0)) 3 [(0, (.s 4)), (1, (.s 9)), (2, (.s 14))])⟩,
    ⟨.slot 16, 21, none, .callp 70 [(.s 15)]⟩,
    ⟨.var 4, 4, none, .mov (.s 16)⟩] [] .skip)
 (.ret)), [.t 4]⟩
noncomputable def t_impl_compareEstimates : List (Nat × Ctr) := [(71, c_cmp_Compare_int64), (72, c_strings_Compare), (70, c_cmp_Or_int)]
theorem lk_impl_compareEstimates_71 : look t_impl_compareEstimates 71 = some c_cmp_Compare_int64 := rfl
theorem lk_impl_compareEstimates_72 : look t_impl_compareEstimates 72 = some c_strings_Compare := rfl
theorem lk_impl_compareEstimates_70 : look t_impl_compareEstimates 70 = some c_cmp_Or_int := rfl
noncomputable def c_impl_compareEstimates : Ctr := mkF t_impl_compareEstimates ir52 [.bor, .bor]
theorem s_impl_compareEstimates : Sound Try.prog 52 c_impl_compareEstimates := mkF_sound _ rfl (snd_cons s_cmp_Compare_int64 (snd_cons s_strings_Compare (snd_cons s_cmp_Or_int snd_nil))) (by kernel_rfl : chkFn Try.prog 52 ir52 ir52_v = true)
theorem M_impl_compareEstimates : c_impl_compareEstimates.modes = [.bor, .bor] := rfl
theorem Fl_impl_compareEstimates : c_impl_compareEstimates.flat = true := rfl
attribute [go_sem] M_impl_compareEstimates Fl_impl_compareEstimates
attribute [go_sem] lk_impl_compareEstimates_71 lk_impl_compareEstimates_72 lk_impl_compareEstimates_70
theorem Fs_impl_compareEstimates {a : Estimate} {b : Estimate} {y_ : Int} (h : impl_compareEstimates a b = some y_) : c_impl_compareEstimates.F [Estimate_av a, Estimate_av b] = ⟨true, .int .i64 y_, [.any, .any]⟩ := by
  refine mkF_E rfl ?_
  dsimp only [impl_compareEstimates] at h
  obtain ⟨y_1, hk1, h⟩ := bd_some h
  have fhk1 := Fs_cmp_Compare_int64 hk1
  try simp only [go_sem] at fhk1
  obtain ⟨y_2, hk2, h⟩ := bd_some h
  have fhk2 := Fs_strings_Compare hk2
  try simp only [go_sem] at fhk2
  obtain ⟨y_3, hk3, h⟩ := bd_some h
  have fhk3 := Fs_strings_Compare hk3
  try simp only [go_sem] at fhk3
  obtain ⟨y_4, hk4, h⟩ := bd_some h
  have fhk4 := Fs_cmp_Or_int hk4
  try simp only [go_sem] at fhk4
  obtain rfl := so_some h
  refine ⟨0, fun L hL => ?_⟩
  simp only [go_sem, ir52, fhk1, fhk2, fhk3, fhk4]


def ir22_b0 : IR := .seq (.region false [
    ⟨.var 7, 11, none, .bin false .lss (.v 6) (.v 5)⟩])
 (.seq (.cond (.v 7) (.skip)
  (.exit 0))
 (.seq (.block 1 (.seq (.region false [
      ⟨.push, 12, none, .mov (.v 6)⟩,
      ⟨.push, 13, none, .ixAddr 5 (.v 4) (.v 6)⟩,
      ⟨.push, 14, none, .load true 5 (.s 0)⟩,
      ⟨.var 3, 4, none, .alloc (.agg [.int .i64 (0), .str [], .str [], .int .i64 (0), .bool false])⟩,
      ⟨.var 2, 3, none, .mov (.s 2)⟩,
      ⟨.no, 0, none, .store 5 (.v 3) (.s 0)⟩])
   (.anyo 17 [
     ⟨.slot 0, 15, none, .load true 5 (.v 3)⟩,
     ⟨.slot 1, 16, none, .callp 51 [(.s 0)]⟩,
     ⟨.slot 2, 17, none, .un .not (.s 1)⟩,
     ⟨.slot 3, 18, none, .mov (.s 2)⟩,
     ⟨.slot 4, 19, (some ((.s 3), false)), .mov (.v 2)⟩,
     ⟨.slot 5, 20, (some ((.s 3), false)), .bin false .gtr (.s 4) (.c (.int .i64 (0)))⟩,
     ⟨.slot 6, 21, (some ((.s 3), false)), .mov (.s 5)⟩,
     ⟨.slot 7, 22, (some ((.s 6), true)), .mov (.v 0)⟩,
     ⟨.slot 8, 23, (some ((.s 6), true)), .mov (.v 2)⟩,
     ⟨.slot 9, 24, (some ((.s 6), true)), .bin false .sub (.s 8) (.c (.int .i64 (1)))⟩,
     ⟨.slot 10, 25, (some ((.s 6), true)), .ixAddr 5 (.s 7) (.s 9)⟩,
     ⟨.slot 11, 26, (some ((.s 6), true)), .load true 5 (.s 10)⟩,
     ⟨.slot 12, 27, (some ((.s 6), true)), .load true 5 (.v 3)⟩,
     ⟨.slot 13, 28, (some ((.s 6), true)), .call 52 [(.s 11), (.s 12)]⟩,
     ⟨.slot 14, 29, (some ((.s 6), true)), .bin false .geq (.s 13) (.c (.int .i64 (0)))⟩,
     ⟨.slot 15, 30, (some ((.s 3), false)), .pick (.s 6) (.s 14) (.c (.bool false))⟩,
     ⟨.slot 16, 31, none, .pick (.s 3) (.c (.bool true)) (.s 15)⟩] [] (.cond (.s 16)
   (.seq (.region false [
       ⟨.var 1, 2, none, .mov (.c (.bool false))⟩])
    (.ret))
   (.skip)))))
 (.region false [
   ⟨.push, 32, none, .bin false .add (.v 6) (.c (.int .i64 (1)))⟩,
   ⟨.var 6, 10, none, .mov (.s 0)⟩])))
def ir22_k0 : List Bool := [true, false, false, false, true, true, true, false]
def ir22_o0 : List Bool := [false, false, false, false, false, false, false, false]
def ir22_r0 : List Bool := [false, true, false, false, false, false, false, false]
def ir22_v : List Nat := [0, 2, 3, 4, 8, 9, 10, 11]
def ir22 : AFn := ⟨1, 8, .seq (.region false [
    ⟨.var 1, 2, none, .mov (.c (.bool false))⟩])
 (.seq (.test false [
    ⟨.push, 5, none, .mov (.v 0)⟩,
    ⟨.push, 6, none, .len false (.s 0)⟩,
    ⟨.push, 7, none, .bin false .gtr (.s 0) (.c (.int .i64 (100)))⟩] (.s 0)
  (.seq (.region false [
      ⟨.var 1, 2, none, .mov (.c (.bool false))⟩])
   (.ret))
  (.skip))
 (.seq (.seq (.region false [
     ⟨.var 4, 8, none, .mov (.v 0)⟩,
     ⟨.var 5, 9, none, .len false (.v 4)⟩,
     ⟨.var 6, 10, none, .mov (.c (.int .i64 (0)))⟩])
  (.block 0 (.loop ir22_k0 ir22_o0 ir22_r0 ir22_b0)))
 (.seq (.region false [
    ⟨.var 1, 2, none, .mov (.c (.bool true))⟩])
 (.ret)))), [.t 1]⟩
noncomputable def t_impl_ValidEstimates : List (Nat × Ctr) := [(51, c_impl_isEstimate), (52, c_impl_compareEstimates)]
theorem lk_impl_ValidEstimates_51 : look t_impl_ValidEstimates 51 = some c_impl_isEstimate := rfl
theorem lk_impl_ValidEstimates_52 : look t_impl_ValidEstimates 52 = some c_impl_compareEstimates := rfl
noncomputable def c_impl_ValidEstimates : Ctr := mkF t_impl_ValidEstimates ir22 [.bor]
theorem s_impl_ValidEstimates : Sound Try.prog 22 c_impl_ValidEstimates := mkF_sound _ rfl (snd_cons s_impl_isEstimate (snd_cons s_impl_compareEstimates snd_nil)) (by kernel_rfl : chkFn Try.prog 22 ir22 ir22_v = true)
theorem M_impl_ValidEstimates : c_impl_ValidEstimates.modes = [.bor] := rfl
theorem Fl_impl_ValidEstimates : c_impl_ValidEstimates.flat = true := rfl
attribute [go_sem] M_impl_ValidEstimates Fl_impl_ValidEstimates
attribute [go_sem] lk_impl_ValidEstimates_51 lk_impl_ValidEstimates_52
def E_impl_ValidEstimates_l1 (list : List Estimate) (t8 : List Estimate) (t9 : Int) : Int → St
  | t10 => ⟨[.sl 5 (List.map Estimate_av list), .any, .any, .any, .sl 5 (List.map Estimate_av t8), .int .i64 t9, .int .i64 t10, .any], [], [], true⟩
def R_impl_ValidEstimates_l1 (list : List Estimate) (t8 : List Estimate) (t9 : Int) : (Unit ⊕ Bool) → Res
  | .inl y => (.exit 0, ⟨[.any, .any, .any, .any, .any, .any, .any, .any], [], [], true⟩)
  | .inr y => (.ret, ⟨[.any, .bool y, .any, .any, .any, .any, .any, .any], [], [], true⟩)
theorem impl_ValidEstimates_l1_ex {list : List Estimate} {t8 : List Estimate} {t9 : Int} {sgm_ : Int} {rho_ : Unit ⊕ Bool} (h : whileE (impl_ValidEstimates_l1 list t8 t9) sgm_ = some rho_) : ∃ L0, ∀ L, L0 ≤ L → iter (exec (look t_impl_ValidEstimates) L ir22_b0) ir22_k0 ir22_o0 ir22_r0 L (E_impl_ValidEstimates_l1 list t8 t9 sgm_) = R_impl_ValidEstimates_l1 list t8 t9 rho_ := by
  refine loop_ex (E := E_impl_ValidEstimates_l1 list t8 t9) (R := R_impl_ValidEstimates_l1 list t8 t9) (fun y => by first | (intro c; cases c) | (rcases y with y | y <;> (intro c; cases c)) | (rcases y with y | y | y <;> (intro c; cases c))) ?_ h
  clear h
  intro t10 o_ h
  dsimp only [impl_ValidEstimates_l1] at h
  rcases it_some h with ⟨hk2, h⟩ | ⟨hk2, h⟩
  · try simp only [go_sem, n1, n2, n3, n4] at hk2
    all_goals
    obtain ⟨hk3, h⟩ := ck_some h
    have lhk3 := ix_lt hk3
    have xhk3 := getD_mapD Estimate_av t8 lhk3
    try simp only [go_sem] at lhk3
    try simp only [go_sem] at xhk3
    try simp only [go_sem, n1, n2, n3, n4, hk2] at hk3
    all_goals
    obtain ⟨y_4, hk4, h⟩ := bd_some h
    have fhk4 := Fs_impl_isEstimate hk4
    try simp only [go_sem, hk2, hk3] at fhk4
    obtain ⟨hk5, h⟩ := ck_some h
    rcases or_split hk5 with ⟨ghk5, hk5⟩ | ghk5
    · try simp only [go_sem, n1, n2, n3, n4, hk2, hk3] at ghk5
      all_goals
      have lhk5 := ix_lt hk5
      have xhk5 := getD_mapD Estimate_av list lhk5
      try simp only [go_sem] at lhk5
      try simp only [go_sem] at xhk5
      try simp only [go_sem, n1, n2, n3, n4, hk2, hk3, ghk5] at hk5
      all_goals
      obtain ⟨hk6, h⟩ := ck_some h
      rcases or_split hk6 with ⟨ghk6, hk6⟩ | ghk6
      · try simp only [go_sem, n1, n2, n3, n4, hk2, hk3, ghk5, hk5] at ghk6
        all_goals
        obtain ⟨y_6, hhk6⟩ := Option.isSome_iff_exists.1 hk6
        have fhk6 := Fs_impl_compareEstimates hhk6
        try simp only [go_sem, hk2, hk3, ghk5, hk5, ghk6] at fhk6
        rcases it_some h with ⟨hk7, h⟩ | ⟨hk7, h⟩
        · try simp only [go_sem, n1, n2, n3, n4, hk2, hk3, ghk5, hk5, ghk6, hhk6] at hk7
          all_goals
          obtain rfl := so_some h
          refine ⟨0, fun L hL => ?_⟩
          simp only [go_sem, ir22, E_impl_ValidEstimates_l1, R_impl_ValidEstimates_l1, ir22_b0, ir22_k0, ir22_o0, ir22_r0, hk2, hk3, lhk3, xhk3, fhk4, ghk5, hk5, lhk5, xhk5, ghk6, hhk6, fhk6, hk7]
        · try simp only [go_sem, n1, n2, n3, n4, hk2, hk3, ghk5, hk5, ghk6, hhk6] at hk7
          all_goals
          obtain rfl := so_some h
          refine ⟨0, fun L hL => ?_⟩
          simp only [go_sem, ir22, E_impl_ValidEstimates_l1, R_impl_ValidEstimates_l1, ir22_b0, ir22_k0, ir22_o0, ir22_r0, hk2, hk3, lhk3, xhk3, fhk4, ghk5, hk5, lhk5, xhk5, ghk6, hhk6, fhk6, hk7]
      · rcases and_f ghk6 with ghk6a | ⟨ghk6a, ghk6b⟩
        · have ghk6an := no_f ghk6a
          have ghk6ann := no_t ghk6an
          try simp only [go_sem, n1, n2, n3, n4, hk2, hk3, ghk5, hk5] at ghk6ann
          all_goals
          rcases it_some h with ⟨hk7, h⟩ | ⟨hk7, h⟩
          · try simp only [go_sem, n1, n2, n3, n4, hk2, hk3, ghk5, hk5, ghk6ann] at hk7
            all_goals
            obtain rfl := so_some h
            refine ⟨0, fun L hL => ?_⟩
            simp only [go_sem, ir22, E_impl_ValidEstimates_l1, R_impl_ValidEstimates_l1, ir22_b0, ir22_k0, ir22_o0, ir22_r0, hk2, hk3, lhk3, xhk3, fhk4, ghk5, hk5, lhk5, xhk5, ghk6ann, hk7]
          · try simp only [go_sem, n1, n2, n3, n4, hk2, hk3, ghk5, hk5, ghk6ann] at hk7
            all_goals
            obtain rfl := so_some h
            refine ⟨0, fun L hL => ?_⟩
            simp only [go_sem, ir22, E_impl_ValidEstimates_l1, R_impl_ValidEstimates_l1, ir22_b0, ir22_k0, ir22_o0, ir22_r0, hk2, hk3, lhk3, xhk3, fhk4, ghk5, hk5, lhk5, xhk5, ghk6ann, hk7]
        · have ghk6an := no_t ghk6a
          have ghk6ann := no_f ghk6an
          try simp only [go_sem, n1, n2, n3, n4, hk2, hk3, ghk5, hk5] at ghk6ann
          all_goals
          try simp only [go_sem, n1, n2, n3, n4, hk2, hk3, ghk5, hk5, ghk6ann] at ghk6b
          all_goals
          rcases it_some h with ⟨hk7, h⟩ | ⟨hk7, h⟩
          · try simp only [go_sem, n1, n2, n3, n4, hk2, hk3, ghk5, hk5, ghk6ann, ghk6b] at hk7
            all_goals
            obtain rfl := so_some h
            refine ⟨0, fun L hL => ?_⟩
            simp only [go_sem, ir22, E_impl_ValidEstimates_l1, R_impl_ValidEstimates_l1, ir22_b0, ir22_k0, ir22_o0, ir22_r0, hk2, hk3, lhk3, xhk3, fhk4, ghk5, hk5, lhk5, xhk5, ghk6ann, ghk6b, hk7]
          · try simp only [go_sem, n1, n2, n3, n4, hk2, hk3, ghk5, hk5, ghk6ann, ghk6b] at hk7
            all_goals
            obtain rfl := so_some h
            refine ⟨0, fun L hL => ?_⟩
            simp only [go_sem, ir22, E_impl_ValidEstimates_l1, R_impl_ValidEstimates_l1, ir22_b0, ir22_k0, ir22_o0, ir22_r0, hk2, hk3, lhk3, xhk3, fhk4, ghk5, hk5, lhk5, xhk5, ghk6ann, ghk6b, hk7]
    · rcases and_f ghk5 with ghk5a | ⟨ghk5a, ghk5b⟩
      · have ghk5an := no_f ghk5a
        have ghk5ann := no_t ghk5an
        try simp only [go_sem, n1, n2, n3, n4, hk2, hk3] at ghk5ann
        all_goals
        obtain ⟨hk6, h⟩ := ck_some h
        rcases or_split hk6 with ⟨ghk6, hk6⟩ | ghk6
        · try simp only [go_sem, n1, n2, n3, n4, hk2, hk3, ghk5ann] at ghk6
          all_goals
          obtain ⟨y_6, hhk6⟩ := Option.isSome_iff_exists.1 hk6
          have fhk6 := Fs_impl_compareEstimates hhk6
          try simp only [go_sem, hk2, hk3, ghk5ann, ghk6] at fhk6
          rcases it_some h with ⟨hk7, h⟩ | ⟨hk7, h⟩
          · try simp only [go_sem, n1, n2, n3, n4, hk2, hk3, ghk5ann, ghk6, hhk6] at hk7
            all_goals
            obtain rfl := so_some h
            refine ⟨0, fun L hL => ?_⟩
            simp only [go_sem, ir22, E_impl_ValidEstimates_l1, R_impl_ValidEstimates_l1, ir22_b0, ir22_k0, ir22_o0, ir22_r0, hk2, hk3, lhk3, xhk3, fhk4, ghk5ann, ghk6, hhk6, fhk6, hk7]
          · try simp only [go_sem, n1, n2, n3, n4, hk2, hk3, ghk5ann, ghk6, hhk6] at hk7
            all_goals
            obtain rfl := so_some h
            refine ⟨0, fun L hL => ?_⟩
            simp only [go_sem, ir22, E_impl_ValidEstimates_l1, R_impl_ValidEstimates_l1, ir22_b0, ir22_k0, ir22_o0, ir22_r0, hk2, hk3, lhk3, xhk3, fhk4, ghk5ann, ghk6, hhk6, fhk6, hk7]
        · rcases and_f ghk6 with ghk6a | ⟨ghk6a, ghk6b⟩
          · have ghk6an := no_f ghk6a
            have ghk6ann := no_t ghk6an
            try simp only [go_sem, n1, n2, n3, n4, hk2, hk3, ghk5ann] at ghk6ann
            all_goals
            rcases it_some h with ⟨hk7, h⟩ | ⟨hk7, h⟩
            · try simp only [go_sem, n1, n2, n3, n4, hk2, hk3, ghk5ann, ghk6ann] at hk7
              all_goals
              obtain rfl := so_some h
              refine ⟨0, fun L hL => ?_⟩
              simp only [go_sem, ir22, E_impl_ValidEstimates_l1, R_impl_ValidEstimates_l1, ir22_b0, ir22_k0, ir22_o0, ir22_r0, hk2, hk3, lhk3, xhk3, fhk4, ghk5ann, ghk6ann, hk7]
            · try simp only [go_sem, n1, n2, n3, n4, hk2, hk3, ghk5ann, ghk6ann] at hk7
              all_goals
              obtain rfl := so_some h
              refine ⟨0, fun L hL => ?_⟩
              simp only [go_sem, ir22, E_impl_ValidEstimates_l1, R_impl_ValidEstimates_l1, ir22_b0, ir22_k0, ir22_o0, ir22_r0, hk2, hk3, lhk3, xhk3, fhk4, ghk5ann, ghk6ann, hk7]
          · have ghk6an := no_t ghk6a
            have ghk6ann := no_f ghk6an
            try simp only [go_sem, n1, n2, n3, n4, hk2, hk3, ghk5ann] at ghk6ann
            all_goals
            try simp only [go_sem, n1, n2, n3, n4, hk2, hk3, ghk5ann, ghk6ann] at ghk6b
            all_goals
            rcases it_some h with ⟨hk7, h⟩ | ⟨hk7, h⟩
            · try simp only [go_sem, n1, n2, n3, n4, hk2, hk3, ghk5ann, ghk6ann, ghk6b] at hk7
              all_goals
              obtain rfl := so_some h
              refine ⟨0, fun L hL => ?_⟩
              simp only [go_sem, ir22, E_impl_ValidEstimates_l1, R_impl_ValidEstimates_l1, ir22_b0, ir22_k0, ir22_o0, ir22_r0, hk2, hk3, lhk3, xhk3, fhk4, ghk5ann, ghk6ann, ghk6b, hk7]
            · try simp only [go_sem, n1, n2, n3, n4, hk2, hk3, ghk5ann, ghk6ann, ghk6b] at hk7
              all_goals
              obtain rfl := so_some h
              refine ⟨0, fun L hL => ?_⟩
              simp only [go_sem, ir22, E_impl_ValidEstimates_l1, R_impl_ValidEstimates_l1, ir22_b0, ir22_k0, ir22_o0, ir22_r0, hk2, hk3, lhk3, xhk3, fhk4, ghk5ann, ghk6ann, ghk6b, hk7]
      · have ghk5an := no_t ghk5a
        have ghk5ann := no_f ghk5an
        try simp only [go_sem, n1, n2, n3, n4, hk2, hk3] at ghk5ann
        all_goals
        try simp only [go_sem, n1, n2, n3, n4, hk2, hk3, ghk5ann] at ghk5b
        all_goals
        obtain ⟨hk6, h⟩ := ck_some h
        rcases or_split hk6 with ⟨ghk6, hk6⟩ | ghk6
        · try simp only [go_sem, n1, n2, n3, n4, hk2, hk3, ghk5ann, ghk5b] at ghk6
          all_goals
          obtain ⟨y_6, hhk6⟩ := Option.isSome_iff_exists.1 hk6
          have fhk6 := Fs_impl_compareEstimates hhk6
          try simp only [go_sem, hk2, hk3, ghk5ann, ghk5b, ghk6] at fhk6
          rcases it_some h with ⟨hk7, h⟩ | ⟨hk7, h⟩
          · try simp only [go_sem, n1, n2, n3, n4, hk2, hk3, ghk5ann, ghk5b, ghk6, hhk6] at hk7
            all_goals
            obtain rfl := so_some h
            refine ⟨0, fun L hL => ?_⟩
            simp only [go_sem, ir22, E_impl_ValidEstimates_l1, R_impl_ValidEstimates_l1, ir22_b0, ir22_k0, ir22_o0, ir22_r0, hk2, hk3, lhk3, xhk3, fhk4, ghk5ann, ghk5b, ghk6, hhk6, fhk6, hk7]
          · try simp only [go_sem, n1, n2, n3, n4, hk2, hk3, ghk5ann, ghk5b, ghk6, hhk6] at hk7
            all_goals
            obtain rfl := so_some h
            refine ⟨0, fun L hL => ?_⟩
            simp only [go_sem, ir22, E_impl_ValidEstimates_l1, R_impl_ValidEstimates_l1, ir22_b0, ir22_k0, ir22_o0, ir22_r0, hk2, hk3, lhk3, xhk3, fhk4, ghk5ann, ghk5b, ghk6, hhk6, fhk6, hk7]
        · rcases and_f ghk6 with ghk6a | ⟨ghk6a, ghk6b⟩
          · have ghk6an := no_f ghk6a
            have ghk6ann := no_t ghk6an
            try simp only [go_sem, n1, n2, n3, n4, hk2, hk3, ghk5ann, ghk5b] at ghk6ann
            all_goals
            rcases it_some h with ⟨hk7, h⟩ | ⟨hk7, h⟩
            · try simp only [go_sem, n1, n2, n3, n4, hk2, hk3, ghk5ann, ghk5b, ghk6ann] at hk7
              all_goals
              obtain rfl := so_some h
              refine ⟨0, fun L hL => ?_⟩
              simp only [go_sem, ir22, E_impl_ValidEstimates_l1, R_impl_ValidEstimates_l1, ir22_b0, ir22_k0, ir22_o0, ir22_r0, hk2, hk3, lhk3, xhk3, fhk4, ghk5ann, ghk5b, ghk6ann, hk7]
            · try simp only [go_sem, n1, n2, n3, n4, hk2, hk3, ghk5ann, ghk5b, ghk6ann] at hk7
              all_goals
              obtain rfl := so_some h
              refine ⟨0, fun L hL => ?_⟩
              simp only [go_sem, ir22, E_impl_ValidEstimates_l1, R_impl_ValidEstimates_l1, ir22_b0, ir22_k0, ir22_o0, ir22_r0, hk2, hk3, lhk3, xhk3, fhk4, ghk5ann, ghk5b, ghk6ann, hk7]
          · have ghk6an := no_t ghk6a
            have ghk6ann := no_f ghk6an
            try simp only [go_sem, n1, n2, n3, n4, hk2, hk3, ghk5ann, ghk5b] at ghk6ann
            all_goals
            try simp only [go_sem, n1, n2, n3, n4, hk2, hk3, ghk5ann, ghk5b, ghk6ann] at ghk6b
            all_goals
            rcases it_some h with ⟨hk7, h⟩ | ⟨hk7, h⟩
            · try simp only [go_sem, n1, n2, n3, n4, hk2, hk3, ghk5ann, ghk5b, ghk6ann, ghk6b] at hk7
              all_goals
              obtain rfl := so_some h
              refine ⟨0, fun L hL => ?_⟩
              simp only [go_sem, ir22, E_impl_ValidEstimates_l1, R_impl_ValidEstimates_l1, ir22_b0, ir22_k0, ir22_o0, ir22_r0, hk2, hk3, lhk3, xhk3, fhk4, ghk5ann, ghk5b, ghk6ann, ghk6b, hk7]
            · try simp only [go_sem, n1, n2, n3, n4, hk2, hk3, ghk5ann, ghk5b, ghk6ann, ghk6b] at hk7
              all_goals
              obtain rfl := so_some h
              refine ⟨0, fun L hL => ?_⟩
              simp only [go_sem, ir22, E_impl_ValidEstimates_l1, R_impl_ValidEstimates_l1, ir22_b0, ir22_k0, ir22_o0, ir22_r0, hk2, hk3, lhk3, xhk3, fhk4, ghk5ann, ghk5b, ghk6ann, ghk6b, hk7]
  · try simp only [go_sem, n1, n2, n3, n4] at hk2
    all_goals
    obtain rfl := so_some h
    refine ⟨0, fun L hL => ?_⟩
    simp only [go_sem, ir22, E_impl_ValidEstimates_l1, R_impl_ValidEstimates_l1, ir22_b0, ir22_k0, ir22_o0, ir22_r0, hk2]

theorem Fs_impl_ValidEstimates {list : List Estimate} {y_ : Bool} (h : impl_ValidEstimates list = some y_) : c_impl_ValidEstimates.F [.sl 5 (List.map Estimate_av list)] = ⟨true, .bool y_, [.any]⟩ := by
  refine mkF_E rfl ?_
  dsimp only [impl_ValidEstimates] at h
  rcases it_some h with ⟨hk1, h⟩ | ⟨hk1, h⟩
  · try simp only [go_sem, n1, n2, n3, n4] at hk1
    all_goals
    obtain rfl := so_some h
    refine ⟨0, fun L hL => ?_⟩
    simp only [go_sem, ir22, E_impl_ValidEstimates_l1, R_impl_ValidEstimates_l1, ir22_k0, ir22_o0, ir22_r0, hk1]
  · try simp only [go_sem, n1, n2, n3, n4] at hk1
    all_goals
    obtain ⟨y_8, hk8, h⟩ := bd_some h
    obtain ⟨Lhk8, ehk8⟩ := impl_ValidEstimates_l1_ex hk8
    rcases y_8 with y_8a | y_8b
    · dsimp only at h
      obtain rfl := so_some h
      refine ⟨Lhk8, fun L hL => ?_⟩
      have ehk8 := ehk8 L (by omega)
      try simp only [go_sem, E_impl_ValidEstimates_l1, R_impl_ValidEstimates_l1, ir22_k0, ir22_o0, ir22_r0, hk1] at ehk8
      simp only [go_sem, ir22, E_impl_ValidEstimates_l1, R_impl_ValidEstimates_l1, ir22_k0, ir22_o0, ir22_r0, hk1, ehk8]
    · dsimp only at h
      obtain rfl := so_some h
      refine ⟨Lhk8, fun L hL => ?_⟩
      have ehk8 := ehk8 L (by omega)
      try simp only [go_sem, E_impl_ValidEstimates_l1, R_impl_ValidEstimates_l1, ir22_k0, ir22_o0, ir22_r0, hk1] at ehk8
      simp only [go_sem, ir22, E_impl_ValidEstimates_l1, R_impl_ValidEstimates_l1, ir22_k0, ir22_o0, ir22_r0, hk1, ehk8]


def ir24_v : List Nat := [0, 1, 2]
def ir24 : AFn := ⟨1, 3, .seq (.region false [
    ⟨.var 1, 1, none, .box (.v 0)⟩,
    ⟨.var 2, 2, none, .mov (.c (.str []))⟩])
 (.seq (.region false [
    ⟨.push, 3, none, .fldAddr 1 (.v 1)⟩,
    ⟨.push, 4, none, .load false 1 (.s 0)⟩,
    ⟨.var 2, 2, none, .mov (.s 0)⟩])
 (.ret)), [.t 2]⟩
noncomputable def t_impl_starOf : List (Nat × Ctr) := []
noncomputable def c_impl_starOf : Ctr := mkF t_impl_starOf ir24 [.bor]
theorem s_impl_starOf : Sound Try.prog 24 c_impl_starOf := mkF_sound _ rfl snd_nil (by kernel_rfl : chkFn Try.prog 24 ir24 ir24_v = true)
theorem M_impl_starOf : c_impl_starOf.modes = [.bor] := rfl
theorem Fl_impl_starOf : c_impl_starOf.flat = true := rfl
attribute [go_sem] M_impl_starOf Fl_impl_starOf
theorem Fs_impl_starOf {e_ : Estimate} {y_ : (List UInt8)} (h : impl_starOf e_ = some y_) : c_impl_starOf.F [Estimate_av e_] = ⟨true, .str y_, [.any]⟩ := by
  refine mkF_E rfl ?_
  dsimp only [impl_starOf] at h
  obtain rfl := so_some h
  refine ⟨0, fun L hL => ?_⟩
  simp only [go_sem, ir24]


theorem s_hSort : Sound Try.prog 53 c_hSort := hSort_is

theorem s_hCompact : Sound Try.prog 54 c_hCompact := hCompact_is

def ir23_b0 : IR := .seq (.region false [
    ⟨.var 8, 12, none, .bin false .lss (.v 7) (.v 6)⟩])
 (.seq (.cond (.v 8) (.skip)
  (.exit 0))
 (.seq (.block 1 (.seq (.region false [
      ⟨.push, 13, none, .ixAddr 5 (.v 5) (.v 7)⟩,
      ⟨.push, 14, none, .load true 5 (.s 0)⟩,
      ⟨.var 4, 7, none, .alloc (.agg [.int .i64 (0), .str [], .str [], .int .i64 (0), .bool false])⟩,
      ⟨.no, 0, none, .store 5 (.v 4) (.s 0)⟩])
   (.region false [
     ⟨.push, 15, none, .mov (.v 3)⟩,
     ⟨.push, 16, none, .mov (.v 1)⟩,
     ⟨.push, 17, none, .load true 5 (.v 4)⟩,
     ⟨.push, 18, none, .callv (.s 1) [(.s 0)]⟩,
     ⟨.push, 19, none, .mkSl 1 (.str []) 1 [(0, (.s 0))]⟩,
     ⟨.push, 20, none, .app 1 16 (.str []) (.s 4) (.s 0)⟩,
     ⟨.var 3, 5, none, .mov (.s 0)⟩])))
 (.region false [
   ⟨.push, 21, none, .bin false .add (.v 7) (.c (.int .i64 (1)))⟩,
   ⟨.var 7, 11, none, .mov (.s 0)⟩])))
def ir23_k0 : List Bool := [false, true, false, true, false, true, true, true, false]
def ir23_o0 : List Bool := [false, false, false, true, false, false, false, false, false]
def ir23_r0 : List Bool := [false, false, true, false, false, false, false, false, false]
def ir23_v : List Nat := [0, 1, 4, 5, 7, 9, 10, 11, 12]
def ir23 : AFn := ⟨2, 9, .seq (.region false [
    ⟨.var 2, 4, none, .newnil 1⟩])
 (.seq (.region false [
    ⟨.push, 8, none, .mkSl 1 (.str []) 0 []⟩,
    ⟨.var 3, 5, none, .mov (.s 0)⟩])
 (.seq (.seq (.region false [
     ⟨.var 5, 9, none, .mov (.v 0)⟩,
     ⟨.var 6, 10, none, .len false (.v 5)⟩,
     ⟨.var 7, 11, none, .mov (.c (.int .i64 (0)))⟩])
  (.block 0 (.loop ir23_k0 ir23_o0 ir23_r0 ir23_b0)))
 (.seq (.region false [
    ⟨.push, 22, none, .mov (.v 3)⟩,
    ⟨.push, 23, none, .call 53 [(.s 0)]⟩])
 (.seq (.region false [
    ⟨.push, 24, none, .mov (.v 3)⟩,
    ⟨.push, 25, none, .call 54 [(.s 0)]⟩,
    ⟨.var 2, 4, none, .mov (.s 0)⟩])
 (.ret))))), [.t 2]⟩
noncomputable def t_impl_namesOf__impl_starOf : List (Nat × Ctr) := [(24, c_impl_starOf), (53, c_hSort), (54, c_hCompact)]
theorem lk_impl_namesOf__impl_starOf_24 : look t_impl_namesOf__impl_starOf 24 = some c_impl_starOf := rfl
theorem lk_impl_namesOf__impl_starOf_53 : look t_impl_namesOf__impl_starOf 53 = some c_hSort := rfl
theorem lk_impl_namesOf__impl_starOf_54 : look t_impl_namesOf__impl_starOf 54 = some c_hCompact := rfl
noncomputable def c_impl_namesOf__impl_starOf : Ctr := mkF t_impl_namesOf__impl_starOf ir23 [.bor, .bor]
theorem s_impl_namesOf__impl_starOf : Sound Try.prog 23 c_impl_namesOf__impl_starOf := mkF_sound _ rfl (snd_cons s_impl_starOf (snd_cons s_hSort (snd_cons s_hCompact snd_nil))) (by kernel_rfl : chkFn Try.prog 23 ir23 ir23_v = true)
theorem M_impl_namesOf__impl_starOf : c_impl_namesOf__impl_starOf.modes = [.bor, .bor] := rfl
theorem Fl_impl_namesOf__impl_starOf : c_impl_namesOf__impl_starOf.flat = true := rfl
attribute [go_sem] M_impl_namesOf__impl_starOf Fl_impl_namesOf__impl_starOf
attribute [go_sem] lk_impl_namesOf__impl_starOf_24 lk_impl_namesOf__impl_starOf_53 lk_impl_namesOf__impl_starOf_54
def E_impl_namesOf__impl_starOf_l1 (t9 : List Estimate) (t10 : Int) : ((List (List UInt8)) × Int) → St
  | (out, t11) => ⟨[.any, .fn (.func 24) [] [], .any, .own 3200000, .any, .sl 5 (List.map Estimate_av t9), .int .i64 t10, .int .i64 t11, .any], [], [(3200000, ⟨1, List.map AV.str out⟩)], true⟩
def R_impl_namesOf__impl_starOf_l1 (t9 : List Estimate) (t10 : Int) (y : (List (List UInt8))) : Res := (.exit 0, ⟨[.any, .any, .any, .own 3200000, .any, .any, .any, .any, .any], [], [(3200000, ⟨1, List.map AV.str y⟩)], true⟩)
theorem impl_namesOf__impl_starOf_l1_ex {t9 : List Estimate} {t10 : Int} {sgm_ : (List (List UInt8)) × Int} {rho_ : (List (List UInt8))} (h : whileE (impl_namesOf__impl_starOf_l1 t9 t10) sgm_ = some rho_) : ∃ L0, ∀ L, L0 ≤ L → iter (exec (look t_impl_namesOf__impl_starOf) L ir23_b0) ir23_k0 ir23_o0 ir23_r0 L (E_impl_namesOf__impl_starOf_l1 t9 t10 sgm_) = R_impl_namesOf__impl_starOf_l1 t9 t10 rho_ := by
  refine loop_ex (E := E_impl_namesOf__impl_starOf_l1 t9 t10) (R := R_impl_namesOf__impl_starOf_l1 t9 t10) (fun y => by first | (intro c; cases c) | (rcases y with y | y <;> (intro c; cases c)) | (rcases y with y | y | y <;> (intro c; cases c))) ?_ h
  clear h
  rintro ⟨out, t11⟩ o_ h
  dsimp only [impl_namesOf__impl_starOf_l1] at h
  rcases it_some h with ⟨hk1, h⟩ | ⟨hk1, h⟩
  · try simp only [go_sem, n1, n2, n3, n4] at hk1
    all_goals
    obtain ⟨hk2, h⟩ := ck_some h
    have lhk2 := ix_lt hk2
    have xhk2 := getD_mapD Estimate_av t9 lhk2
    try simp only [go_sem] at lhk2
    try simp only [go_sem] at xhk2
    try simp only [go_sem, n1, n2, n3, n4, hk1] at hk2
    all_goals
    obtain ⟨y_3, hk3, h⟩ := bd_some h
    have fhk3 := Fs_impl_starOf hk3
    try simp only [go_sem, hk1, hk2] at fhk3
    obtain ⟨hk4, h⟩ := ck_some h
    try simp only [go_sem, n1, n2, n3, n4, hk1, hk2] at hk4
    all_goals
    obtain rfl := so_some h
    refine ⟨0, fun L hL => ?_⟩
    simp only [go_sem, ir23, E_impl_namesOf__impl_starOf_l1, R_impl_namesOf__impl_starOf_l1, ir23_b0, ir23_k0, ir23_o0, ir23_r0, hk1, hk2, lhk2, xhk2, fhk3, hk4]
  · try simp only [go_sem, n1, n2, n3, n4] at hk1
    all_goals
    obtain rfl := so_some h
    refine ⟨0, fun L hL => ?_⟩
    simp only [go_sem, ir23, E_impl_namesOf__impl_starOf_l1, R_impl_namesOf__impl_starOf_l1, ir23_b0, ir23_k0, ir23_o0, ir23_r0, hk1]

theorem Fs_impl_namesOf__impl_starOf {list : List Estimate} {y_ : (List (List UInt8))} (h : impl_namesOf__impl_starOf list = some y_) : c_impl_namesOf__impl_starOf.F [.sl 5 (List.map Estimate_av list), .fn (.func 24) [] []] = ⟨true, .fresh 1 (List.map AV.str y_), [.any, .any]⟩ := by
  refine mkF_E (by simp only [flatA, flatB, flat1, List.all_cons, List.all_nil, Bool.and_self, flatE_map (f := AV.str) (fun _ => rfl)]) ?_
  dsimp only [impl_namesOf__impl_starOf] at h
  obtain ⟨y_5, hk5, h⟩ := bd_some h
  obtain ⟨Lhk5, ehk5⟩ := impl_namesOf__impl_starOf_l1_ex hk5
  obtain ⟨y_6, hk6, h⟩ := bd_some h
  have fhk6 := Fs_hSort hk6
  try simp only [go_sem] at fhk6
  obtain ⟨y_7, hk7, h⟩ := bd_some h
  have fhk7 := Fs_hCompact hk7
  try simp only [go_sem] at fhk7
  obtain rfl := so_some h
  refine ⟨Lhk5, fun L hL => ?_⟩
  have ehk5 := ehk5 L (by omega)
  try simp only [go_sem, E_impl_namesOf__impl_starOf_l1, R_impl_namesOf__impl_starOf_l1, ir23_k0, ir23_o0, ir23_r0] at ehk5
  simp only [go_sem, ir23, E_impl_namesOf__impl_starOf_l1, R_impl_namesOf__impl_starOf_l1, ir23_k0, ir23_o0, ir23_r0, fhk6, fhk7, ehk5]


def ir25_v : List Nat := [0, 1, 2]
def ir25 : AFn := ⟨1, 3, .seq (.region false [
    ⟨.var 1, 1, none, .box (.v 0)⟩,
    ⟨.var 2, 2, none, .mov (.c (.str []))⟩])
 (.seq (.region false [
    ⟨.push, 3, none, .fldAddr 2 (.v 1)⟩,
    ⟨.push, 4, none, .load false 1 (.s 0)⟩,
    ⟨.var 2, 2, none, .mov (.s 0)⟩])
 (.ret)), [.t 2]⟩
noncomputable def t_impl_observerOf : List (Nat × Ctr) := []
noncomputable def c_impl_observerOf : Ctr := mkF t_impl_observerOf ir25 [.bor]
theorem s_impl_observerOf : Sound Try.prog 25 c_impl_observerOf := mkF_sound _ rfl snd_nil (by kernel_rfl : chkFn Try.prog 25 ir25 ir25_v = true)
theorem M_impl_observerOf : c_impl_observerOf.modes = [.bor] := rfl
theorem Fl_impl_observerOf : c_impl_observerOf.flat = true := rfl
attribute [go_sem] M_impl_observerOf Fl_impl_observerOf
theorem Fs_impl_observerOf {e_ : Estimate} {y_ : (List UInt8)} (h : impl_observerOf e_ = some y_) : c_impl_observerOf.F [Estimate_av e_] = ⟨true, .str y_, [.any]⟩ := by
  refine mkF_E rfl ?_
  dsimp only [impl_observerOf] at h
  obtain rfl := so_some h
  refine ⟨0, fun L hL => ?_⟩
  simp only [go_sem, ir25]


noncomputable def t_impl_namesOf__impl_observerOf : List (Nat × Ctr) := [(25, c_impl_observerOf), (53, c_hSort), (54, c_hCompact)]
theorem lk_impl_namesOf__impl_observerOf_25 : look t_impl_namesOf__impl_observerOf 25 = some c_impl_observerOf := rfl
theorem lk_impl_namesOf__impl_observerOf_53 : look t_impl_namesOf__impl_observerOf 53 = some c_hSort := rfl
theorem lk_impl_namesOf__impl_observerOf_54 : look t_impl_namesOf__impl_observerOf 54 = some c_hCompact := rfl
noncomputable def c_impl_namesOf__impl_observerOf : Ctr := mkF t_impl_namesOf__impl_observerOf ir23 [.bor, .bor]
theorem s_impl_namesOf__impl_observerOf : Sound Try.prog 23 c_impl_namesOf__impl_observerOf := mkF_sound _ rfl (snd_cons s_impl_observerOf (snd_cons s_hSort (snd_cons s_hCompact snd_nil))) (by kernel_rfl : chkFn Try.prog 23 ir23 ir23_v = true)
theorem M_impl_namesOf__impl_observerOf : c_impl_namesOf__impl_observerOf.modes = [.bor, .bor] := rfl
theorem Fl_impl_namesOf__impl_observerOf : c_impl_namesOf__impl_observerOf.flat = true := rfl
attribute [go_sem] M_impl_namesOf__impl_observerOf Fl_impl_namesOf__impl_observerOf
attribute [go_sem] lk_impl_namesOf__impl_observerOf_25 lk_impl_namesOf__impl_observerOf_53 lk_impl_namesOf__impl_observerOf_54
def E_impl_namesOf__impl_observerOf_l1 (t9 : List Estimate) (t10 : Int) : ((List (List UInt8)) × Int) → St
  | (out, t11) => ⟨[.any, .fn (.func 25) [] [], .any, .own 3200000, .any, .sl 5 (List.map Estimate_av t9), .int .i64 t10, .int .i64 t11, .any], [], [(3200000, ⟨1, List.map AV.str out⟩)], true⟩
def R_impl_namesOf__impl_observerOf_l1 (t9 : List Estimate) (t10 : Int) (y : (List (List UInt8))) : Res := (.exit 0, ⟨[.any, .any, .any, .own 3200000, .any, .any, .any, .any, .any], [], [(3200000, ⟨1, List.map AV.str y⟩)], true⟩)
theorem impl_namesOf__impl_observerOf_l1_ex {t9 : List Estimate} {t10 : Int} {sgm_ : (List (List UInt8)) × Int} {rho_ : (List (List UInt8))} (h : whileE (impl_namesOf__impl_observerOf_l1 t9 t10) sgm_ = some rho_) : ∃ L0, ∀ L, L0 ≤ L → iter (exec (look t_impl_namesOf__impl_observerOf) L ir23_b0) ir23_k0 ir23_o0 ir23_r0 L (E_impl_namesOf__impl_observerOf_l1 t9 t10 sgm_) = R_impl_namesOf__impl_observerOf_l1 t9 t10 rho_ := by
  refine loop_ex (E := E_impl_namesOf__impl_observerOf_l1 t9 t10) (R := R_impl_namesOf__impl_observerOf_l1 t9 t10) (fun y => by first | (intro c; cases c) | (rcases y with y | y <;> (intro c; cases c)) | (rcases y with y | y | y <;> (intro c; cases c))) ?_ h
  clear h
  rintro ⟨out, t11⟩ o_ h
  dsimp only [impl_namesOf__impl_observerOf_l1] at h
  rcases it_some h with ⟨hk1, h⟩ | ⟨hk1, h⟩
  · try simp only [go_sem, n1, n2, n3, n4] at hk1
    all_goals
    obtain ⟨hk2, h⟩ := ck_some h
    have lhk2 := ix_lt hk2
    have xhk2 := getD_mapD Estimate_av t9 lhk2
    try simp only [go_sem] at lhk2
    try simp only [go_sem] at xhk2
    try simp only [go_sem, n1, n2, n3, n4, hk1] at hk2
    all_goals
    obtain ⟨y_3, hk3, h⟩ := bd_some h
    have fhk3 := Fs_impl_observerOf hk3
    try simp only [go_sem, hk1, hk2] at fhk3
    obtain ⟨hk4, h⟩ := ck_some h
    try simp only [go_sem, n1, n2, n3, n4, hk1, hk2] at hk4
    all_goals
    obtain rfl := so_some h
    refine ⟨0, fun L hL => ?_⟩
    simp only [go_sem, ir23, E_impl_namesOf__impl_observerOf_l1, R_impl_namesOf__impl_observerOf_l1, ir23_b0, ir23_k0, ir23_o0, ir23_r0, hk1, hk2, lhk2, xhk2, fhk3, hk4]
  · try simp only [go_sem, n1, n2, n3, n4] at hk1
    all_goals
    obtain rfl := so_some h
    refine ⟨0, fun L hL => ?_⟩
    simp only [go_sem, ir23, E_impl_namesOf__impl_observerOf_l1, R_impl_namesOf__impl_observerOf_l1, ir23_b0, ir23_k0, ir23_o0, ir23_r0, hk1]

theorem Fs_impl_namesOf__impl_observerOf {list : List Estimate} {y_ : (List (List UInt8))} (h : impl_namesOf__impl_observerOf list = some y_) : c_impl_namesOf__impl_observerOf.F [.sl 5 (List.map Estimate_av list), .fn (.func 25) [] []] = ⟨true, .fresh 1 (List.map AV.str y_), [.any, .any]⟩ := by
  refine mkF_E (by simp only [flatA, flatB, flat1, List.all_cons, List.all_nil, Bool.and_self, flatE_map (f := AV.str) (fun _ => rfl)]) ?_
  dsimp only [impl_namesOf__impl_observerOf] at h
  obtain ⟨y_5, hk5, h⟩ := bd_some h
  obtain ⟨Lhk5, ehk5⟩ := impl_namesOf__impl_observerOf_l1_ex hk5
  obtain ⟨y_6, hk6, h⟩ := bd_some h
  have fhk6 := Fs_hSort hk6
  try simp only [go_sem] at fhk6
  obtain ⟨y_7, hk7, h⟩ := bd_some h
  have fhk7 := Fs_hCompact hk7
  try simp only [go_sem] at fhk7
  obtain rfl := so_some h
  refine ⟨Lhk5, fun L hL => ?_⟩
  have ehk5 := ehk5 L (by omega)
  try simp only [go_sem, E_impl_namesOf__impl_observerOf_l1, R_impl_namesOf__impl_observerOf_l1, ir23_k0, ir23_o0, ir23_r0] at ehk5
  simp only [go_sem, ir23, E_impl_namesOf__impl_observerOf_l1, R_impl_namesOf__impl_observerOf_l1, ir23_k0, ir23_o0, ir23_r0, fhk6, fhk7, ehk5]


def ir40_v : List Nat := [0, 2]
def ir40 : AFn := ⟨1, 2, .seq (.region false [
    ⟨.var 1, 2, none, .mov (.c (.int .i64 (0)))⟩])
 (.seq (.region false [
    ⟨.push, 3, none, .mov (.v 0)⟩,
    ⟨.push, 4, none, .len false (.s 0)⟩,
    ⟨.var 1, 2, none, .mov (.s 0)⟩])
 (.ret)), [.t 1]⟩
noncomputable def t_impl_count_string : List (Nat × Ctr) := []
noncomputable def c_impl_count_string : Ctr := mkF t_impl_count_string ir40 [.bor]
theorem s_impl_count_string : Sound Try.prog 40 c_impl_count_string := mkF_sound _ rfl snd_nil (by kernel_rfl : chkFn Try.prog 40 ir40 ir40_v = true)
theorem M_impl_count_string : c_impl_count_string.modes = [.bor] := rfl
theorem Fl_impl_count_string : c_impl_count_string.flat = true := rfl
attribute [go_sem] M_impl_count_string Fl_impl_count_string
theorem Fs_impl_count_string {list : List (List UInt8)} {y_ : Int} (h : impl_count_string list = some y_) : c_impl_count_string.F [.sl 1 (List.map AV.str list)] = ⟨true, .int .i64 y_, [.any]⟩ := by
  refine mkF_E rfl ?_
  dsimp only [impl_count_string] at h
  obtain rfl := so_some h
  refine ⟨0, fun L hL => ?_⟩
  simp only [go_sem, ir40]


def ir27_b0 : IR := .seq (.test false [
    ⟨.push, 5, none, .mov (.v 1)⟩,
    ⟨.push, 6, none, .bin false .geq (.s 0) (.c (.int .i64 (128)))⟩] (.s 0)
  (.skip)
  (.exit 0))
 (.seq (.block 1 (.region false [
     ⟨.push, 9, none, .mov (.v 0)⟩,
     ⟨.push, 10, none, .mov (.v 1)⟩,
     ⟨.push, 11, none, .bin false .rem (.s 0) (.c (.int .i64 (128)))⟩,
     ⟨.push, 12, none, .bin false .add (.s 0) (.c (.int .i64 (128)))⟩,
     ⟨.push, 13, none, .conv .u8 (.s 0)⟩,
     ⟨.push, 14, none, .mkSl 1 (.int .u8 (0)) 1 [(0, (.s 0))]⟩,
     ⟨.push, 15, none, .app 1 1 (.int .u8 (0)) (.s 5) (.s 0)⟩,
     ⟨.var 0, 0, none, .mov (.s 0)⟩]))
 (.region false [
   ⟨.push, 7, none, .mov (.v 1)⟩,
   ⟨.push, 8, none, .bin false .quo (.s 0) (.c (.int .i64 (128)))⟩,
   ⟨.var 1, 1, none, .mov (.s 0)⟩]))
def ir27_k0 : List Bool := [true, true, false]
def ir27_o0 : List Bool := [true, true, false]
def ir27_r0 : List Bool := [false, false, true]
def ir27_v : List Nat := [0, 1, 4]
def ir27 : AFn := ⟨2, 3, .seq (.region false [
    ⟨.var 2, 4, none, .newnil 1⟩])
 (.seq (.block 0 (.loop ir27_k0 ir27_o0 ir27_r0 ir27_b0))
 (.seq (.region false [
    ⟨.push, 16, none, .mov (.v 0)⟩,
    ⟨.push, 17, none, .mov (.v 1)⟩,
    ⟨.push, 18, none, .conv .u8 (.s 0)⟩,
    ⟨.push, 19, none, .mkSl 1 (.int .u8 (0)) 1 [(0, (.s 0))]⟩,
    ⟨.push, 20, none, .app 1 1 (.int .u8 (0)) (.s 3) (.s 0)⟩,
    ⟨.var 2, 4, none, .mov (.s 0)⟩])
 (.ret))), [.t 2]⟩
noncomputable def t_impl_appendNumber : List (Nat × Ctr) := []
noncomputable def c_impl_appendNumber : Ctr := mkF t_impl_appendNumber ir27 [.mov, .bor]
theorem s_impl_appendNumber : Sound Try.prog 27 c_impl_appendNumber := mkF_sound _ rfl snd_nil (by kernel_rfl : chkFn Try.prog 27 ir27 ir27_v = true)
theorem M_impl_appendNumber : c_impl_appendNumber.modes = [.mov, .bor] := rfl
theorem Fl_impl_appendNumber : c_impl_appendNumber.flat = true := rfl
attribute [go_sem] M_impl_appendNumber Fl_impl_appendNumber
def E_impl_appendNumber_l1  : ((List UInt8) × Int) → St
  | (b, n) => ⟨[.own 31, .int .i64 n, .any], [], [(31, ⟨1, List.map byteAV b⟩)], true⟩
def R_impl_appendNumber_l1  (y : (List UInt8) × Int) : Res := (.exit 0, ⟨[.own 31, .int .i64 y.2, .any], [], [(31, ⟨1, List.map byteAV y.1⟩)], true⟩)
theorem impl_appendNumber_l1_ex  {sgm_ : (List UInt8) × Int} {rho_ : (List UInt8) × Int} (h : whileE (impl_appendNumber_l1) sgm_ = some rho_) : ∃ L0, ∀ L, L0 ≤ L → iter (exec (look t_impl_appendNumber) L ir27_b0) ir27_k0 ir27_o0 ir27_r0 L (E_impl_appendNumber_l1 sgm_) = R_impl_appendNumber_l1 rho_ := by
  refine loop_ex (E := E_impl_appendNumber_l1) (R := R_impl_appendNumber_l1) (fun y => by first | (intro c; cases c) | (rcases y with y | y <;> (intro c; cases c)) | (rcases y with y | y | y <;> (intro c; cases c))) ?_ h
  clear h
  rintro ⟨b, n⟩ o_ h
  dsimp only [impl_appendNumber_l1] at h
  rcases it_some h with ⟨hk1, h⟩ | ⟨hk1, h⟩
  · try simp only [go_sem, n1, n2, n3, n4] at hk1
    all_goals
    obtain ⟨hk2, h⟩ := ck_some h
    try simp only [go_sem, n1, n2, n3, n4, hk1] at hk2
    all_goals
    obtain ⟨hk3, h⟩ := ck_some h
    try simp only [go_sem, n1, n2, n3, n4, hk1, hk2] at hk3
    all_goals
    obtain rfl := so_some h
    refine ⟨0, fun L hL => ?_⟩
    simp only [go_sem, ir27, E_impl_appendNumber_l1, R_impl_appendNumber_l1, ir27_b0, ir27_k0, ir27_o0, ir27_r0, hk1, hk2, hk3]
  · try simp only [go_sem, n1, n2, n3, n4] at hk1
    all_goals
    obtain rfl := so_some h
    refine ⟨0, fun L hL => ?_⟩
    simp only [go_sem, ir27, E_impl_appendNumber_l1, R_impl_appendNumber_l1, ir27_b0, ir27_k0, ir27_o0, ir27_r0, hk1]

theorem Fs_impl_appendNumber {b : List UInt8} {n : Int} {y_ : (List UInt8)} (h : impl_appendNumber b n = some y_) : c_impl_appendNumber.F [.fresh 1 (List.map byteAV b), .int .i64 n] = ⟨true, .fresh 1 (List.map byteAV y_), [.any, .any]⟩ := by
  refine mkF_E (by simp only [flatA, flatB, flat1, List.all_cons, List.all_nil, Bool.and_self, flatE_map (f := byteAV) (fun _ => rfl)]) ?_
  dsimp only [impl_appendNumber] at h
  obtain ⟨y_4, hk4, h⟩ := bd_some h
  obtain ⟨Lhk4, ehk4⟩ := impl_appendNumber_l1_ex hk4
  obtain ⟨hk5, h⟩ := ck_some h
  try simp only [go_sem, n1, n2, n3, n4] at hk5
  all_goals
  obtain rfl := so_some h
  refine ⟨Lhk4, fun L hL => ?_⟩
  have ehk4 := ehk4 L (by omega)
  try simp only [go_sem, E_impl_appendNumber_l1, R_impl_appendNumber_l1, ir27_k0, ir27_o0, ir27_r0, hk5] at ehk4
  simp only [go_sem, ir27, E_impl_appendNumber_l1, R_impl_appendNumber_l1, ir27_k0, ir27_o0, ir27_r0, hk5, ehk4]


def ir26_b0 : IR := .seq (.region false [
    ⟨.var 7, 14, none, .bin false .lss (.v 6) (.v 5)⟩])
 (.seq (.cond (.v 7) (.skip)
  (.exit 0))
 (.seq (.block 1 (.seq (.region false [
      ⟨.push, 15, none, .ixAddr 1 (.v 4) (.v 6)⟩,
      ⟨.push, 16, none, .load false 1 (.s 0)⟩,
      ⟨.var 3, 6, none, .mov (.s 0)⟩])
   (.region false [
     ⟨.push, 17, none, .mov (.v 0)⟩,
     ⟨.push, 18, none, .mov (.v 3)⟩,
     ⟨.push, 19, none, .len true (.s 0)⟩,
     ⟨.push, 20, none, .call 27 [(.s 2), (.s 0)]⟩,
     ⟨.push, 21, none, .mov (.v 3)⟩,
     ⟨.push, 22, none, .app 1 1 (.int .u8 (0)) (.s 1) (.s 0)⟩,
     ⟨.var 0, 0, none, .mov (.s 0)⟩])))
 (.region false [
   ⟨.push, 23, none, .bin false .add (.v 6) (.c (.int .i64 (1)))⟩,
   ⟨.var 6, 13, none, .mov (.s 0)⟩])))
def ir26_k0 : List Bool := [true, false, false, false, true, true, true, false]
def ir26_o0 : List Bool := [true, false, false, false, false, false, false, false]
def ir26_r0 : List Bool := [false, false, true, false, false, false, false, false]
def ir26_v : List Nat := [0, 1, 4, 6, 11, 12, 13, 14]
def ir26 : AFn := ⟨2, 8, .seq (.region false [
    ⟨.var 2, 4, none, .newnil 1⟩])
 (.seq (.region false [
    ⟨.push, 7, none, .mov (.v 0)⟩,
    ⟨.push, 8, none, .mov (.v 1)⟩,
    ⟨.push, 9, none, .call 40 [(.s 0)]⟩,
    ⟨.push, 10, none, .call 27 [(.s 2), (.s 0)]⟩,
    ⟨.var 0, 0, none, .mov (.s 0)⟩])
 (.seq (.seq (.region false [
     ⟨.var 4, 11, none, .mov (.v 1)⟩,
     ⟨.var 5, 12, none, .len false (.v 4)⟩,
     ⟨.var 6, 13, none, .mov (.c (.int .i64 (0)))⟩])
  (.block 0 (.loop ir26_k0 ir26_o0 ir26_r0 ir26_b0)))
 (.seq (.region false [
    ⟨.push, 24, none, .mov (.v 0)⟩,
    ⟨.var 2, 4, none, .mov (.s 0)⟩])
 (.ret)))), [.t 2]⟩
noncomputable def t_impl_appendNames : List (Nat × Ctr) := [(40, c_impl_count_string), (27, c_impl_appendNumber)]
theorem lk_impl_appendNames_40 : look t_impl_appendNames 40 = some c_impl_count_string := rfl
theorem lk_impl_appendNames_27 : look t_impl_appendNames 27 = some c_impl_appendNumber := rfl
noncomputable def c_impl_appendNames : Ctr := mkF t_impl_appendNames ir26 [.mov, .bor]
theorem s_impl_appendNames : Sound Try.prog 26 c_impl_appendNames := mkF_sound _ rfl (snd_cons s_impl_count_string (snd_cons s_impl_appendNumber snd_nil)) (by kernel_rfl : chkFn Try.prog 26 ir26 ir26_v = true)
theorem M_impl_appendNames : c_impl_appendNames.modes = [.mov, .bor] := rfl
theorem Fl_impl_appendNames : c_impl_appendNames.flat = true := rfl
attribute [go_sem] M_impl_appendNames Fl_impl_appendNames
attribute [go_sem] lk_impl_appendNames_40 lk_impl_appendNames_27
def E_impl_appendNames_l1 (t11 : List (List UInt8)) (t12 : Int) : ((List UInt8) × Int) → St
  | (b, t13) => ⟨[.own 3200000, .any, .any, .any, .sl 1 (List.map AV.str t11), .int .i64 t12, .int .i64 t13, .any], [], [(3200000, ⟨1, List.map byteAV b⟩)], true⟩
def R_impl_appendNames_l1 (t11 : List (List UInt8)) (t12 : Int) (y : (List UInt8)) : Res := (.exit 0, ⟨[.own 3200000, .any, .any, .any, .any, .any, .any, .any], [], [(3200000, ⟨1, List.map byteAV y⟩)], true⟩)
theorem impl_appendNames_l1_ex {t11 : List (List UInt8)} {t12 : Int} {sgm_ : (List UInt8) × Int} {rho_ : (List UInt8)} (h : whileE (impl_appendNames_l1 t11 t12) sgm_ = some rho_) : ∃ L0, ∀ L, L0 ≤ L → iter (exec (look t_impl_appendNames) L ir26_b0) ir26_k0 ir26_o0 ir26_r0 L (E_impl_appendNames_l1 t11 t12 sgm_) = R_impl_appendNames_l1 t11 t12 rho_ := by
  refine loop_ex (E := E_impl_appendNames_l1 t11 t12) (R := R_impl_appendNames_l1 t11 t12) (fun y => by first | (intro c; cases c) | (rcases y with y | y <;> (intro c; cases c)) | (rcases y with y | y | y <;> (intro c; cases c))) ?_ h
  clear h
  rintro ⟨b, t13⟩ o_ h
  dsimp only [impl_appendNames_l1] at h
  rcases it_some h with ⟨hk3, h⟩ | ⟨hk3, h⟩
  · try simp only [go_sem, n1, n2, n3, n4] at hk3
    all_goals
    obtain ⟨hk4, h⟩ := ck_some h
    have lhk4 := ix_lt hk4
    have xhk4 := getD_mapD AV.str t11 lhk4
    try simp only [go_sem] at lhk4
    try simp only [go_sem] at xhk4
    try simp only [go_sem, n1, n2, n3, n4, hk3] at hk4
    all_goals
    obtain ⟨y_5, hk5, h⟩ := bd_some h
    have fhk5 := Fs_impl_appendNumber hk5
    try simp only [go_sem, hk3, hk4] at fhk5
    obtain ⟨hk6, h⟩ := ck_some h
    try simp only [go_sem, n1, n2, n3, n4, hk3, hk4] at hk6
    all_goals
    obtain rfl := so_some h
    refine ⟨0, fun L hL => ?_⟩
    simp only [go_sem, ir26, E_impl_appendNames_l1, R_impl_appendNames_l1, ir26_b0, ir26_k0, ir26_o0, ir26_r0, hk3, hk4, lhk4, xhk4, fhk5, hk6]
  · try simp only [go_sem, n1, n2, n3, n4] at hk3
    all_goals
    obtain rfl := so_some h
    refine ⟨0, fun L hL => ?_⟩
    simp only [go_sem, ir26, E_impl_appendNames_l1, R_impl_appendNames_l1, ir26_b0, ir26_k0, ir26_o0, ir26_r0, hk3]

theorem Fs_impl_appendNames {b : List UInt8} {names : List (List UInt8)} {y_ : (List UInt8)} (h : impl_appendNames b names = some y_) : c_impl_appendNames.F [.fresh 1 (List.map byteAV b), .sl 1 (List.map AV.str names)] = ⟨true, .fresh 1 (List.map byteAV y_), [.any, .any]⟩ := by
  refine mkF_E (by simp only [flatA, flatB, flat1, List.all_cons, List.all_nil, Bool.and_self, flatE_map (f := byteAV) (fun _ => rfl)]) ?_
  dsimp only [impl_appendNames] at h
  obtain ⟨y_1, hk1, h⟩ := bd_some h
  have fhk1 := Fs_impl_count_string hk1
  try simp only [go_sem] at fhk1
  obtain ⟨y_2, hk2, h⟩ := bd_some h
  have fhk2 := Fs_impl_appendNumber hk2
  try simp only [go_sem] at fhk2
  obtain ⟨y_7, hk7, h⟩ := bd_some h
  obtain ⟨Lhk7, ehk7⟩ := impl_appendNames_l1_ex hk7
  obtain rfl := so_some h
  refine ⟨Lhk7, fun L hL => ?_⟩
  have ehk7 := ehk7 L (by omega)
  try simp only [go_sem, E_impl_appendNames_l1, R_impl_appendNames_l1, ir26_k0, ir26_o0, ir26_r0] at ehk7
  simp only [go_sem, ir26, E_impl_appendNames_l1, R_impl_appendNames_l1, ir26_k0, ir26_o0, ir26_r0, fhk1, fhk2, ehk7]


def ir28_v : List Nat := [0, 2]
def ir28 : AFn := ⟨1, 2, .seq (.region false [
    ⟨.var 1, 2, none, .mov (.c (.int .i64 (0)))⟩])
 (.seq (.region false [
    ⟨.push, 3, none, .mov (.v 0)⟩,
    ⟨.push, 4, none, .len false (.s 0)⟩,
    ⟨.var 1, 2, none, .mov (.s 0)⟩])
 (.ret)), [.t 1]⟩
noncomputable def t_impl_count_impl_Estimate : List (Nat × Ctr) := []
noncomputable def c_impl_count_impl_Estimate : Ctr := mkF t_impl_count_impl_Estimate ir28 [.bor]
theorem s_impl_count_impl_Estimate : Sound Try.prog 28 c_impl_count_impl_Estimate := mkF_sound _ rfl snd_nil (by kernel_rfl : chkFn Try.prog 28 ir28 ir28_v = true)
theorem M_impl_count_impl_Estimate : c_impl_count_impl_Estimate.modes = [.bor] := rfl
theorem Fl_impl_count_impl_Estimate : c_impl_count_impl_Estimate.flat = true := rfl
attribute [go_sem] M_impl_count_impl_Estimate Fl_impl_count_impl_Estimate
theorem Fs_impl_count_impl_Estimate {list : List Estimate} {y_ : Int} (h : impl_count_impl_Estimate list = some y_) : c_impl_count_impl_Estimate.F [.sl 5 (List.map Estimate_av list)] = ⟨true, .int .i64 y_, [.any]⟩ := by
  refine mkF_E rfl ?_
  dsimp only [impl_count_impl_Estimate] at h
  obtain rfl := so_some h
  refine ⟨0, fun L hL => ?_⟩
  simp only [go_sem, ir28]


def ir57_b0 : IR := .seq (.region false [
    ⟨.var 8, 10, none, .bin false .lss (.v 7) (.v 6)⟩])
 (.seq (.cond (.v 8) (.skip)
  (.exit 0))
 (.seq (.block 1 (.seq (.region false [
      ⟨.push, 11, none, .ixAddr 1 (.v 5) (.v 7)⟩,
      ⟨.push, 12, none, .load false 1 (.s 0)⟩,
      ⟨.var 4, 6, none, .mov (.s 0)⟩])
   (.seq (.region false [
      ⟨.push, 13, none, .mov (.v 2)⟩,
      ⟨.push, 14, none, .mov (.v 4)⟩,
      ⟨.push, 15, none, .conv .i64 (.s 0)⟩,
      ⟨.push, 16, none, .bin false .add (.s 2) (.s 0)⟩,
      ⟨.push, 17, none, .bin false .rem (.s 0) (.c (.int .i64 (251)))⟩,
      ⟨.var 2, 3, none, .mov (.s 0)⟩])
   (.region false [
     ⟨.push, 18, none, .mov (.v 3)⟩,
     ⟨.push, 19, none, .mov (.v 2)⟩,
     ⟨.push, 20, none, .bin false .add (.s 1) (.s 0)⟩,
     ⟨.push, 21, none, .bin false .rem (.s 0) (.c (.int .i64 (251)))⟩,
     ⟨.var 3, 4, none, .mov (.s 0)⟩]))))
 (.region false [
   ⟨.push, 22, none, .bin false .add (.v 7) (.c (.int .i64 (1)))⟩,
   ⟨.var 7, 9, none, .mov (.s 0)⟩])))
def ir57_k0 : List Bool := [false, false, true, true, false, true, true, true, false]
def ir57_o0 : List Bool := [false, false, true, true, false, false, false, false, false]
def ir57_r0 : List Bool := [false, true, false, false, false, false, false, false, false]
def ir57_v : List Nat := [0, 2, 3, 4, 6, 7, 8, 9, 10]
def ir57 : AFn := ⟨1, 9, .seq (.region false [
    ⟨.var 1, 2, none, .mov (.c (.int .i64 (0)))⟩])
 (.seq (.region false [
    ⟨.var 2, 3, none, .mov (.c (.int .i64 (1)))⟩,
    ⟨.var 3, 4, none, .mov (.c (.int .i64 (0)))⟩])
 (.seq (.seq (.region false [
     ⟨.var 5, 7, none, .mov (.v 0)⟩,
     ⟨.var 6, 8, none, .len false (.v 5)⟩,
     ⟨.var 7, 9, none, .mov (.c (.int .i64 (0)))⟩])
  (.block 0 (.loop ir57_k0 ir57_o0 ir57_r0 ir57_b0)))
 (.seq (.region false [
    ⟨.push, 23, none, .mov (.v 3)⟩,
    ⟨.push, 24, none, .bin false .mul (.c (.int .i64 (251))) (.s 0)⟩,
    ⟨.push, 25, none, .mov (.v 2)⟩,
    ⟨.push, 26, none, .bin false .add (.s 1) (.s 0)⟩,
    ⟨.var 1, 2, none, .mov (.s 0)⟩])
 (.ret)))), [.t 1]⟩
noncomputable def t_impl_SumOfBytes : List (Nat × Ctr) := []
noncomputable def c_impl_SumOfBytes : Ctr := mkF t_impl_SumOfBytes ir57 [.bor]
theorem s_impl_SumOfBytes : Sound Try.prog 57 c_impl_SumOfBytes := mkF_sound _ rfl snd_nil (by kernel_rfl : chkFn Try.prog 57 ir57 ir57_v = true)
theorem M_impl_SumOfBytes : c_impl_SumOfBytes.modes = [.bor] := rfl
theorem Fl_impl_SumOfBytes : c_impl_SumOfBytes.flat = true := rfl
attribute [go_sem] M_impl_SumOfBytes Fl_impl_SumOfBytes
def E_impl_SumOfBytes_l1 (t7 : List UInt8) (t8 : Int) : (Int × Int × Int) → St
  | (s_, t, t9) => ⟨[.any, .any, .int .i64 s_, .int .i64 t, .any, .sl 1 (List.map byteAV t7), .int .i64 t8, .int .i64 t9, .any], [], [], true⟩
def R_impl_SumOfBytes_l1 (t7 : List UInt8) (t8 : Int) (y : Int × Int) : Res := (.exit 0, ⟨[.any, .any, .int .i64 y.1, .int .i64 y.2, .any, .any, .any, .any, .any], [], [], true⟩)
theorem impl_SumOfBytes_l1_ex {t7 : List UInt8} {t8 : Int} {sgm_ : Int × Int × Int} {rho_ : Int × Int} (h : whileE (impl_SumOfBytes_l1 t7 t8) sgm_ = some rho_) : ∃ L0, ∀ L, L0 ≤ L → iter (exec (look t_impl_SumOfBytes) L ir57_b0) ir57_k0 ir57_o0 ir57_r0 L (E_impl_SumOfBytes_l1 t7 t8 sgm_) = R_impl_SumOfBytes_l1 t7 t8 rho_ := by
  refine loop_ex (E := E_impl_SumOfBytes_l1 t7 t8) (R := R_impl_SumOfBytes_l1 t7 t8) (fun y => by first | (intro c; cases c) | (rcases y with y | y <;> (intro c; cases c)) | (rcases y with y | y | y <;> (intro c; cases c))) ?_ h
  clear h
  rintro ⟨s_, t, t9⟩ o_ h
  dsimp only [impl_SumOfBytes_l1] at h
  rcases it_some h with ⟨hk1, h⟩ | ⟨hk1, h⟩
  · try simp only [go_sem, n1, n2, n3, n4] at hk1
    all_goals
    obtain ⟨hk2, h⟩ := ck_some h
    have lhk2 := ix_lt hk2
    have xhk2 := getD_mapD byteAV t7 lhk2
    try simp only [go_sem] at lhk2
    try simp only [go_sem] at xhk2
    try simp only [go_sem, n1, n2, n3, n4, hk1] at hk2
    all_goals
    obtain ⟨hk3, h⟩ := ck_some h
    try simp only [go_sem, n1, n2, n3, n4, hk1, hk2] at hk3
    all_goals
    obtain rfl := so_some h
    refine ⟨0, fun L hL => ?_⟩
    simp only [go_sem, ir57, E_impl_SumOfBytes_l1, R_impl_SumOfBytes_l1, ir57_b0, ir57_k0, ir57_o0, ir57_r0, hk1, hk2, lhk2, xhk2, hk3]
  · try simp only [go_sem, n1, n2, n3, n4] at hk1
    all_goals
    obtain rfl := so_some h
    refine ⟨0, fun L hL => ?_⟩
    simp only [go_sem, ir57, E_impl_SumOfBytes_l1, R_impl_SumOfBytes_l1, ir57_b0, ir57_k0, ir57_o0, ir57_r0, hk1]

theorem Fs_impl_SumOfBytes {b : List UInt8} {y_ : Int} (h : impl_SumOfBytes b = some y_) : c_impl_SumOfBytes.F [.sl 1 (List.map byteAV b)] = ⟨true, .int .i64 y_, [.any]⟩ := by
  refine mkF_E rfl ?_
  dsimp only [impl_SumOfBytes] at h
  obtain ⟨y_4, hk4, h⟩ := bd_some h
  obtain ⟨Lhk4, ehk4⟩ := impl_SumOfBytes_l1_ex hk4
  obtain rfl := so_some h
  refine ⟨Lhk4, fun L hL => ?_⟩
  have ehk4 := ehk4 L (by omega)
  try simp only [go_sem, E_impl_SumOfBytes_l1, R_impl_SumOfBytes_l1, ir57_k0, ir57_o0, ir57_r0] at ehk4
  simp only [go_sem, ir57, E_impl_SumOfBytes_l1, R_impl_SumOfBytes_l1, ir57_k0, ir57_o0, ir57_r0, ehk4]


def ir31_v : List Nat := [0, 2, 3]
def ir31 : AFn := ⟨1, 3, .seq (.region false [
    ⟨.var 1, 2, none, .newnil 1⟩])
 (.seq (.region false [
    ⟨.push, 4, none, .mov (.v 0)⟩,
    ⟨.push, 5, none, .call 57 [(.s 0)]⟩,
    ⟨.var 2, 3, none, .mov (.s 0)⟩])
 (.seq (.region false [
    ⟨.push, 6, none, .mov (.v 0)⟩,
    ⟨.push, 7, none, .mov (.v 2)⟩,
    ⟨.push, 8, none, .bin false .quo (.s 0) (.c (.int .i64 (256)))⟩,
    ⟨.push, 9, none, .conv .u8 (.s 0)⟩,
    ⟨.push, 10, none, .mov (.v 2)⟩,
    ⟨.push, 11, none, .bin false .rem (.s 0) (.c (.int .i64 (256)))⟩,
    ⟨.push, 12, none, .conv .u8 (.s 0)⟩,
    ⟨.push, 13, none, .mkSl 1 (.int .u8 (0)) 2 [(0, (.s 3)), (1, (.s 0))]⟩,
    ⟨.push, 14, none, .app 1 1 (.int .u8 (0)) (.s 7) (.s 0)⟩,
    ⟨.var 1, 2, none, .mov (.s 0)⟩])
 (.ret))), [.t 1]⟩
noncomputable def t_impl_sealed : List (Nat × Ctr) := [(57, c_impl_SumOfBytes)]
theorem lk_impl_sealed_57 : look t_impl_sealed 57 = some c_impl_SumOfBytes := rfl
noncomputable def c_impl_sealed : Ctr := mkF t_impl_sealed ir31 [.mov]
theorem s_impl_sealed : Sound Try.prog 31 c_impl_sealed := mkF_sound _ rfl (snd_cons s_impl_SumOfBytes snd_nil) (by kernel_rfl : chkFn Try.prog 31 ir31 ir31_v = true)
theorem M_impl_sealed : c_impl_sealed.modes = [.mov] := rfl
theorem Fl_impl_sealed : c_impl_sealed.flat = true := rfl
attribute [go_sem] M_impl_sealed Fl_impl_sealed
attribute [go_sem] lk_impl_sealed_57
theorem Fs_impl_sealed {b : List UInt8} {y_ : (List UInt8)} (h : impl_sealed b = some y_) : c_impl_sealed.F [.fresh 1 (List.map byteAV b)] = ⟨true, .fresh 1 (List.map byteAV y_), [.any]⟩ := by
  refine mkF_E (by simp only [flatA, flatB, flat1, List.all_cons, List.all_nil, Bool.and_self, flatE_map (f := byteAV) (fun _ => rfl)]) ?_
  dsimp only [impl_sealed] at h
  obtain ⟨y_1, hk1, h⟩ := bd_some h
  have fhk1 := Fs_impl_SumOfBytes hk1
  try simp only [go_sem] at fhk1
  obtain ⟨hk2, h⟩ := ck_some h
  try simp only [go_sem, n1, n2, n3, n4] at hk2
  all_goals
  obtain ⟨hk3, h⟩ := ck_some h
  try simp only [go_sem, n1, n2, n3, n4, hk2] at hk3
  all_goals
  obtain rfl := so_some h
  refine ⟨0, fun L hL => ?_⟩
  simp only [go_sem, ir31, fhk1, hk2, hk3]


end Go.Proofs.Ytgbopjgnggdhkaa
