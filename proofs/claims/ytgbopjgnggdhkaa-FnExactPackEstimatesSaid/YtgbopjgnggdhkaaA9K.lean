/- Codes and contracts of the functions that A9 reaches, and that their typed forms say what they do. No condition. -/
import Derived.Test.YtgbopjgnggdhkaaA9Ka
import Derived.Test.YtgbopjgnggdhkaaRows
import Derived.WalkKit
namespace Go.Proofs.Ytgbopjgnggdhkaa
open Go Go.RowKit
set_option linter.unusedVariables false
set_option linter.unusedSimpArgs false
set_option maxRecDepth 10000

def ir8_b1 : IR := .seq (.region false [
    ⟨.var 18, 62, none, .bin false .lss (.v 17) (.v 16)⟩])
 (.seq (.cond (.v 18) (.skip)
  (.exit 2))
 (.seq (.block 3 (.seq (.region false [
      ⟨.push, 63, none, .ixAddr 1 (.v 15) (.v 17)⟩,
      ⟨.push, 64, none, .load false 1 (.s 0)⟩,
      ⟨.var 10, 13, none, .mov (.s 0)⟩])
   (.region false [
     ⟨.push, 65, none, .mov (.v 5)⟩,
     ⟨.push, 66, none, .mov (.v 10)⟩,
     ⟨.push, 67, none, .call 27 [(.s 1), (.s 0)]⟩,
     ⟨.var 5, 6, none, .mov (.s 0)⟩])))
 (.region false [
   ⟨.push, 68, none, .bin false .add (.v 17) (.c (.int .i64 (1)))⟩,
   ⟨.var 17, 61, none, .mov (.s 0)⟩])))
def ir8_k1 : List Bool := [false, false, false, true, true, true, false, false, true, false, false, true, true, true, false, true, true, true, false]
def ir8_o1 : List Bool := [false, false, false, true, true, true, false, false, true, false, false, true, true, true, false, false, false, false, false]
def ir8_r1 : List Bool := [false, true, true, false, false, false, false, false, false, false, false, false, false, false, false, false, false, false, false]
def ir8_b0 : IR := .seq (.region false [
    ⟨.var 14, 33, none, .bin false .lss (.v 13) (.v 12)⟩])
 (.seq (.cond (.v 14) (.skip)
  (.exit 0))
 (.seq (.block 1 (.seq (.region false [
      ⟨.push, 34, none, .ixAddr 5 (.v 11) (.v 13)⟩,
      ⟨.push, 35, none, .load true 5 (.s 0)⟩,
      ⟨.var 8, 10, none, .alloc (.agg [.int .i64 (0), .str [], .str [], .int .i64 (0), .bool false])⟩,
      ⟨.no, 0, none, .store 5 (.v 8) (.s 0)⟩])
   (.seq (.region false [
      ⟨.push, 36, none, .mov (.v 4)⟩,
      ⟨.push, 37, none, .fldAddr 2 (.v 8)⟩,
      ⟨.push, 38, none, .load false 1 (.s 0)⟩,
      ⟨.push, 39, none, .call 29 [(.s 2), (.s 0)]⟩,
      ⟨.push, 40, none, .bin false .mul (.c (.int .i64 (2))) (.s 0)⟩,
      ⟨.var 9, 11, none, .mov (.s 0)⟩])
   (.seq (.test false [
      ⟨.push, 41, none, .fldAddr 4 (.v 8)⟩,
      ⟨.push, 42, none, .load false 1 (.s 0)⟩] (.s 0)
    (.region false [
       ⟨.push, 43, none, .mov (.v 9)⟩,
       ⟨.push, 44, none, .bin false .add (.s 0) (.c (.int .i64 (1)))⟩,
       ⟨.var 9, 11, none, .mov (.s 0)⟩])
    (.skip))
   (.seq (.seq (.anyo 14 [
       ⟨.slot 0, 45, none, .fldAddr 0 (.v 8)⟩,
       ⟨.slot 1, 46, none, .load false 1 (.s 0)⟩,
       ⟨.slot 2, 47, none, .mov (.v 6)⟩,
       ⟨.slot 3, 48, none, .bin false .sub (.s 1) (.s 2)⟩,
       ⟨.slot 4, 49, none, .mov (.v 3)⟩,
       ⟨.slot 5, 50, none, .fldAddr 1 (.v 8)⟩,
       ⟨.slot 6, 51, none, .load false 1 (.s 5)⟩,
       ⟨.slot 7, 52, none, .callp 29 [(.s 4), (.s 6)]⟩,
       ⟨.slot 8, 53, none, .mov (.v 9)⟩,
       ⟨.slot 9, 54, none, .fldAddr 3 (.v 8)⟩,
       ⟨.slot 10, 55, none, .load false 1 (.s 9)⟩,
       ⟨.slot 11, 56, none, .mov (.v 7)⟩,
       ⟨.slot 12, 57, none, .bin false .sub (.s 10) (.s 11)⟩,
       ⟨.slot 13, 58, none, .callp 30 [(.s 12)]⟩,
       ⟨.var 15, 59, none, .mkSl 1 (.int .i64 (0)) 4 [(0, (.s 3)), (1, (.s 7)), (2, (.s 8)), (3, (.s 13))]⟩,
       ⟨.var 16, 60, none, .len false (.v 15)⟩,
       ⟨.var 17, 61, none, .mov (.c (.int .i64 (0)))⟩] [[0, 1, 2, 3, 4, 5, 6, 7, 8, 9, 10, 11, 12, 13, 16, 14, 15]] .skip)
    (.block 2 (.loop ir8_k1 ir8_o1 ir8_r1 ir8_b1)))
   (.anyo 4 [
     ⟨.slot 0, 69, none, .fldAddr 0 (.v 8)⟩,
     ⟨.slot 1, 70, none, .load false 1 (.s 0)⟩,
     ⟨.slot 2, 71, none, .fldAddr 3 (.v 8)⟩,
     ⟨.slot 3, 72, none, .load false 1 (.s 2)⟩,
     ⟨.var 6, 7, none, .mov (.s 1)⟩,
     ⟨.var 7, 8, none, .mov (.s 3)⟩] [] .skip))))))
 (.region false [
   ⟨.push, 73, none, .bin false .add (.v 13) (.c (.int .i64 (1)))⟩,
   ⟨.var 13, 32, none, .mov (.s 0)⟩])))
def ir8_k0 : List Bool := [false, false, false, true, true, true, true, true, false, false, false, true, true, true, false, false, false, false, false]
def ir8_o0 : List Bool := [false, false, false, false, false, true, false, false, false, false, false, false, false, false, false, false, false, false, false]
def ir8_r0 : List Bool := [false, true, true, false, false, false, false, false, false, false, false, false, false, false, false, false, false, false, false]
def ir8_v : List Nat := [0, 2, 3, 4, 5, 6, 7, 8, 10, 11, 13, 30, 31, 32, 33, 59, 60, 61, 62]
def ir8 : AFn := ⟨1, 19, .seq (.region false [
    ⟨.var 1, 2, none, .newnil 1⟩,
    ⟨.var 2, 3, none, .mov (.c (.int .i64 (0)))⟩])
 (.seq (.test false [
    ⟨.push, 14, none, .mov (.v 0)⟩,
    ⟨.push, 15, none, .call 22 [(.s 0)]⟩,
    ⟨.push, 16, none, .un .not (.s 0)⟩] (.s 0)
  (.seq (.region false [
      ⟨.var 1, 2, none, .newnil 1⟩,
      ⟨.var 2, 3, none, .mov (.c (.int .i64 (1)))⟩])
   (.ret))
  (.skip))
 (.seq (.region false [
    ⟨.push, 17, none, .mov (.v 0)⟩,
    ⟨.push, 18, none, .call 23 [(.s 0), (.c (.fn (.func 24) [] []))]⟩,
    ⟨.push, 19, none, .mov (.v 0)⟩,
    ⟨.push, 20, none, .call 23 [(.s 0), (.c (.fn (.func 25) [] []))]⟩,
    ⟨.var 3, 4, none, .mov (.s 2)⟩,
    ⟨.var 4, 5, none, .mov (.s 0)⟩])
 (.seq (.region false [
    ⟨.push, 21, none, .mkSl 1 (.int .u8 (0)) 1 [(0, (.c (.int .u8 (69))))]⟩,
    ⟨.push, 22, none, .mov (.v 3)⟩,
    ⟨.push, 23, none, .call 26 [(.s 1), (.s 0)]⟩,
    ⟨.push, 24, none, .mov (.v 4)⟩,
    ⟨.push, 25, none, .call 26 [(.s 1), (.s 0)]⟩,
    ⟨.var 5, 6, none, .mov (.s 0)⟩])
 (.seq (.region false [
    ⟨.push, 26, none, .mov (.v 5)⟩,
    ⟨.push, 27, none, .mov (.v 0)⟩,
    ⟨.push, 28, none, .call 28 [(.s 0)]⟩,
    ⟨.push, 29, none, .call 27 [(.s 2), (.s 0)]⟩,
    ⟨.var 5, 6, none, .mov (.s 0)⟩])
 (.seq (.region false [
    ⟨.var 6, 7, none, .mov (.c (.int .i64 (0)))⟩,
    ⟨.var 7, 8, none, .mov (.c (.int .i64 (0)))⟩])
 (.seq (.seq (.region false [
     ⟨.var 11, 30, none, .mov (.v 0)⟩,
     ⟨.var 12, 31, none, .len false (.v 11)⟩,
     ⟨.var 13, 32, none, .mov (.c (.int .i64 (0)))⟩])
  (.block 0 (.loop ir8_k0 ir8_o0 ir8_r0 ir8_b0)))
 (.seq (.region false [
    ⟨.push, 74, none, .mov (.v 5)⟩,
    ⟨.push, 75, none, .call 31 [(.s 0)]⟩,
    ⟨.var 1, 2, none, .mov (.s 0)⟩,
    ⟨.var 2, 3, none, .mov (.c (.int .i64 (0)))⟩])
 (.ret)))))))), [.t 1, .t 2]⟩
noncomputable def pk_impl_PackEstimates_23 : Ctr := (pickC 1 24 c_impl_namesOf__impl_starOf c_impl_namesOf__impl_observerOf)
theorem s_pk_impl_PackEstimates_23 : Sound Try.prog 23 pk_impl_PackEstimates_23 := (pickC_sound s_impl_namesOf__impl_starOf s_impl_namesOf__impl_observerOf rfl rfl)
theorem M_pk_impl_PackEstimates_23 : pk_impl_PackEstimates_23.modes = [.bor, .bor] := rfl
theorem Fl_pk_impl_PackEstimates_23 : pk_impl_PackEstimates_23.flat = true := rfl
attribute [go_sem] M_pk_impl_PackEstimates_23 Fl_pk_impl_PackEstimates_23
theorem qpk_impl_PackEstimates_23_impl_namesOf__impl_starOf {list : List Estimate} : pk_impl_PackEstimates_23.F [.sl 5 (List.map Estimate_av list), .fn (.func 24) [] []] = c_impl_namesOf__impl_starOf.F [.sl 5 (List.map Estimate_av list), .fn (.func 24) [] []] := rfl
attribute [go_sem] qpk_impl_PackEstimates_23_impl_namesOf__impl_starOf
theorem qpk_impl_PackEstimates_23_impl_namesOf__impl_observerOf {list : List Estimate} : pk_impl_PackEstimates_23.F [.sl 5 (List.map Estimate_av list), .fn (.func 25) [] []] = c_impl_namesOf__impl_observerOf.F [.sl 5 (List.map Estimate_av list), .fn (.func 25) [] []] := rfl
attribute [go_sem] qpk_impl_PackEstimates_23_impl_namesOf__impl_observerOf
noncomputable def t_impl_PackEstimates : List (Nat × Ctr) := [(22, c_impl_ValidEstimates), (23, pk_impl_PackEstimates_23), (26, c_impl_appendNames), (28, c_impl_count_impl_Estimate), (27, c_impl_appendNumber), (29, c_impl_placeOf), (30, c_impl_fold), (31, c_impl_sealed)]
theorem lk_impl_PackEstimates_22 : look t_impl_PackEstimates 22 = some c_impl_ValidEstimates := rfl
theorem lk_impl_PackEstimates_23 : look t_impl_PackEstimates 23 = some pk_impl_PackEstimates_23 := rfl
theorem lk_impl_PackEstimates_26 : look t_impl_PackEstimates 26 = some c_impl_appendNames := rfl
theorem lk_impl_PackEstimates_28 : look t_impl_PackEstimates 28 = some c_impl_count_impl_Estimate := rfl
theorem lk_impl_PackEstimates_27 : look t_impl_PackEstimates 27 = some c_impl_appendNumber := rfl
theorem lk_impl_PackEstimates_29 : look t_impl_PackEstimates 29 = some c_impl_placeOf := rfl
theorem lk_impl_PackEstimates_30 : look t_impl_PackEstimates 30 = some c_impl_fold := rfl
theorem lk_impl_PackEstimates_31 : look t_impl_PackEstimates 31 = some c_impl_sealed := rfl
noncomputable def c_impl_PackEstimates : Ctr := mkF t_impl_PackEstimates ir8 [.bor]
theorem s_impl_PackEstimates : Sound Try.prog 8 c_impl_PackEstimates := mkF_sound _ rfl (snd_cons s_impl_ValidEstimates (snd_cons s_pk_impl_PackEstimates_23 (snd_cons s_impl_appendNames (snd_cons s_impl_count_impl_Estimate (snd_cons s_impl_appendNumber (snd_cons s_impl_placeOf (snd_cons s_impl_fold (snd_cons s_impl_sealed snd_nil)))))))) (by kernel_rfl : chkFn Try.prog 8 ir8 ir8_v = true)
theorem M_impl_PackEstimates : c_impl_PackEstimates.modes = [.bor] := rfl
theorem Fl_impl_PackEstimates : c_impl_PackEstimates.flat = true := rfl
attribute [go_sem] M_impl_PackEstimates Fl_impl_PackEstimates
attribute [go_sem] lk_impl_PackEstimates_22 lk_impl_PackEstimates_23 lk_impl_PackEstimates_26 lk_impl_PackEstimates_28 lk_impl_PackEstimates_27 lk_impl_PackEstimates_29 lk_impl_PackEstimates_30 lk_impl_PackEstimates_31
def E_impl_PackEstimates_l2 (stars : List (List UInt8)) (observers : List (List UInt8)) (e_ : Estimate) (t30 : List Estimate) (t31 : Int) (t32 : Int) (t59 : List Int) (t60 : Int) : ((List UInt8) × Int) → St
  | (b, t61) => ⟨[.any, .any, .any, .own 3200000, .own 3200032, .own 3200064, .any, .any, .ref 3200096 0 0, .any, .any, .sl 5 (List.map Estimate_av t30), .int .i64 t31, .int .i64 t32, .any, .own 3200128, .int .i64 t60, .int .i64 t61, .any], [], [(3200000, ⟨1, List.map AV.str stars⟩), (3200032, ⟨1, List.map AV.str observers⟩), (3200064, ⟨1, List.map byteAV b⟩), (3200096, ⟨5, [Estimate_av e_]⟩), (3200128, ⟨1, List.map (AV.int .i64) t59⟩)], true⟩
def R_impl_PackEstimates_l2 (stars : List (List UInt8)) (observers : List (List UInt8)) (e_ : Estimate) (t30 : List Estimate) (t31 : Int) (t32 : Int) (t59 : List Int) (t60 : Int) (y : (List UInt8)) : Res := (.exit 2, ⟨[.any, .any, .any, .own 3200000, .own 3200032, .own 3200064, .any, .any, .ref 3200096 0 0, .any, .any, .sl 5 (List.map Estimate_av t30), .int .i64 t31, .int .i64 t32, .any, .any, .any, .any, .any], [], [(3200000, ⟨1, List.map AV.str stars⟩), (3200032, ⟨1, List.map AV.str observers⟩), (3200064, ⟨1, List.map byteAV y⟩), (3200096, ⟨5, [Estimate_av e_]⟩)], true⟩)
theorem impl_PackEstimates_l2_ex {stars : List (List UInt8)} {observers : List (List UInt8)} {e_ : Estimate} {t30 : List Estimate} {t31 : Int} {t32 : Int} {t59 : List Int} {t60 : Int} {sgm_ : (List UInt8) × Int} {rho_ : (List UInt8)} (h : whileE (impl_PackEstimates_l2 stars observers e_ t30 t31 t32 t59 t60) sgm_ = some rho_) : ∃ L0, ∀ L, L0 ≤ L → iter (exec (look t_impl_PackEstimates) L ir8_b1) ir8_k1 ir8_o1 ir8_r1 L (E_impl_PackEstimates_l2 stars observers e_ t30 t31 t32 t59 t60 sgm_) = R_impl_PackEstimates_l2 stars observers e_ t30 t31 t32 t59 t60 rho_ := by
  refine loop_ex (E := E_impl_PackEstimates_l2 stars observers e_ t30 t31 t32 t59 t60) (R := R_impl_PackEstimates_l2 stars observers e_ t30 t31 t32 t59 t60) (fun y => by first | (intro c; cases c) | (rcases y with y | y <;> (intro c; cases c)) | (rcases y with y | y | y <;> (intro c; cases c))) ?_ h
  clear h
  rintro ⟨b, t61⟩ o_ h
  dsimp only [impl_PackEstimates_l2] at h
  rcases it_some h with ⟨hk15, h⟩ | ⟨hk15, h⟩
  · try simp only [go_sem, n1, n2, n3, n4] at hk15
    all_goals
    obtain ⟨hk16, h⟩ := ck_some h
    have lhk16 := ix_lt hk16
    have xhk16 := getD_mapD (AV.int .i64) t59 lhk16
    try simp only [go_sem] at lhk16
    try simp only [go_sem] at xhk16
    try simp only [go_sem, n1, n2, n3, n4, hk15] at hk16
    all_goals
    obtain ⟨y_17, hk17, h⟩ := bd_some h
    have fhk17 := Fs_impl_appendNumber hk17
    try simp only [go_sem, hk15, hk16] at fhk17
    obtain rfl := so_some h
    refine ⟨0, fun L hL => ?_⟩
    simp only [go_sem, ir8, E_impl_PackEstimates_l2, R_impl_PackEstimates_l2, ir8_b1, ir8_k1, ir8_o1, ir8_r1, hk15, hk16, lhk16, xhk16, fhk17]
  · try simp only [go_sem, n1, n2, n3, n4] at hk15
    all_goals
    obtain rfl := so_some h
    refine ⟨0, fun L hL => ?_⟩
    simp only [go_sem, ir8, E_impl_PackEstimates_l2, R_impl_PackEstimates_l2, ir8_b1, ir8_k1, ir8_o1, ir8_r1, hk15]

def E_impl_PackEstimates_l3 (stars : List (List UInt8)) (observers : List (List UInt8)) (e_ : Estimate) (t30 : List Estimate) (t31 : Int) (t32 : Int) (t59 : List Int) (t60 : Int) : ((List UInt8) × Int) → St
  | (b, t61) => ⟨[.any, .any, .any, .own 3200000, .own 3200032, .own 3200064, .any, .any, .ref 3200096 0 0, .any, .any, .sl 5 (List.map Estimate_av t30), .int .i64 t31, .int .i64 t32, .any, .own 3200128, .int .i64 t60, .int .i64 t61, .any], [], [(3200000, ⟨1, List.map AV.str stars⟩), (3200032, ⟨1, List.map AV.str observers⟩), (3200064, ⟨1, List.map byteAV b⟩), (3200096, ⟨5, [Estimate_av e_]⟩), (3200128, ⟨1, List.map (AV.int .i64) t59⟩)], true⟩
def R_impl_PackEstimates_l3 (stars : List (List UInt8)) (observers : List (List UInt8)) (e_ : Estimate) (t30 : List Estimate) (t31 : Int) (t32 : Int) (t59 : List Int) (t60 : Int) (y : (List UInt8)) : Res := (.exit 2, ⟨[.any, .any, .any, .own 3200000, .own 3200032, .own 3200064, .any, .any, .ref 3200096 0 0, .any, .any, .sl 5 (List.map Estimate_av t30), .int .i64 t31, .int .i64 t32, .any, .any, .any, .any, .any], [], [(3200000, ⟨1, List.map AV.str stars⟩), (3200032, ⟨1, List.map AV.str observers⟩), (3200064, ⟨1, List.map byteAV y⟩), (3200096, ⟨5, [Estimate_av e_]⟩)], true⟩)
theorem impl_PackEstimates_l3_ex {stars : List (List UInt8)} {observers : List (List UInt8)} {e_ : Estimate} {t30 : List Estimate} {t31 : Int} {t32 : Int} {t59 : List Int} {t60 : Int} {sgm_ : (List UInt8) × Int} {rho_ : (List UInt8)} (h : whileE (impl_PackEstimates_l3 stars observers e_ t30 t31 t32 t59 t60) sgm_ = some rho_) : ∃ L0, ∀ L, L0 ≤ L → iter (exec (look t_impl_PackEstimates) L ir8_b1) ir8_k1 ir8_o1 ir8_r1 L (E_impl_PackEstimates_l3 stars observers e_ t30 t31 t32 t59 t60 sgm_) = R_impl_PackEstimates_l3 stars observers e_ t30 t31 t32 t59 t60 rho_ := by
  refine loop_ex (E := E_impl_PackEstimates_l3 stars observers e_ t30 t31 t32 t59 t60) (R := R_impl_PackEstimates_l3 stars observers e_ t30 t31 t32 t59 t60) (fun y => by first | (intro c; cases c) | (rcases y with y | y <;> (intro c; cases c)) | (rcases y with y | y | y <;> (intro c; cases c))) ?_ h
  clear h
  rintro ⟨b, t61⟩ o_ h
  dsimp only [impl_PackEstimates_l3] at h
  rcases it_some h with ⟨hk21, h⟩ | ⟨hk21, h⟩
  · try simp only [go_sem, n1, n2, n3, n4] at hk21
    all_goals
    obtain ⟨hk22, h⟩ := ck_some h
    have lhk22 := ix_lt hk22
    have xhk22 := getD_mapD (AV.int .i64) t59 lhk22
    try simp only [go_sem] at lhk22
    try simp only [go_sem] at xhk22
    try simp only [go_sem, n1, n2, n3, n4, hk21] at hk22
    all_goals
    obtain ⟨y_23, hk23, h⟩ := bd_some h
    have fhk23 := Fs_impl_appendNumber hk23
    try simp only [go_sem, hk21, hk22] at fhk23
    obtain rfl := so_some h
    refine ⟨0, fun L hL => ?_⟩
    simp only [go_sem, ir8, E_impl_PackEstimates_l3, R_impl_PackEstimates_l3, ir8_b1, ir8_k1, ir8_o1, ir8_r1, E_impl_PackEstimates_l2, R_impl_PackEstimates_l2, ir8_k1, ir8_o1, ir8_r1, hk21, hk22, lhk22, xhk22, fhk23]
  · try simp only [go_sem, n1, n2, n3, n4] at hk21
    all_goals
    obtain rfl := so_some h
    refine ⟨0, fun L hL => ?_⟩
    simp only [go_sem, ir8, E_impl_PackEstimates_l3, R_impl_PackEstimates_l3, ir8_b1, ir8_k1, ir8_o1, ir8_r1, E_impl_PackEstimates_l2, R_impl_PackEstimates_l2, ir8_k1, ir8_o1, ir8_r1, hk21]

def E_impl_PackEstimates_l1 (stars : List (List UInt8)) (observers : List (List UInt8)) (t30 : List Estimate) (t31 : Int) : ((List UInt8) × Int × Int × Int) → St
  | (b, time, mag, t32) => ⟨[.any, .any, .any, .own 3200000, .own 3200032, .own 3200064, .int .i64 time, .int .i64 mag, .any, .any, .any, .sl 5 (List.map Estimate_av t30), .int .i64 t31, .int .i64 t32, .any, .any, .any, .any, .any], [], [(3200000, ⟨1, List.map AV.str stars⟩), (3200032, ⟨1, List.map AV.str observers⟩), (3200064, ⟨1, List.map byteAV b⟩)], true⟩
def R_impl_PackEstimates_l1 (stars : List (List UInt8)) (observers : List (List UInt8)) (t30 : List Estimate) (t31 : Int) (y : (List UInt8)) : Res := (.exit 0, ⟨[.any, .any, .any, .any, .any, .own 3200000, .any, .any, .any, .any, .any, .any, .any, .any, .any, .any, .any, .any, .any], [], [(3200000, ⟨1, List.map byteAV y⟩)], true⟩)
theorem impl_PackEstimates_l1_ex {stars : List (List UInt8)} {observers : List (List UInt8)} {t30 : List Estimate} {t31 : Int} {sgm_ : (List UInt8) × Int × Int × Int} {rho_ : (List UInt8)} (h : whileE (impl_PackEstimates_l1 stars observers t30 t31) sgm_ = some rho_) : ∃ L0, ∀ L, L0 ≤ L → iter (exec (look t_impl_PackEstimates) L ir8_b0) ir8_k0 ir8_o0 ir8_r0 L (E_impl_PackEstimates_l1 stars observers t30 t31 sgm_) = R_impl_PackEstimates_l1 stars observers t30 t31 rho_ := by
  refine loop_ex (E := E_impl_PackEstimates_l1 stars observers t30 t31) (R := R_impl_PackEstimates_l1 stars observers t30 t31) (fun y => by first | (intro c; cases c) | (rcases y with y | y <;> (intro c; cases c)) | (rcases y with y | y | y <;> (intro c; cases c))) ?_ h
  clear h
  rintro ⟨b, time, mag, t32⟩ o_ h
  dsimp only [impl_PackEstimates_l1] at h
  rcases it_some h with ⟨hk9, h⟩ | ⟨hk9, h⟩
  · try simp only [go_sem, n1, n2, n3, n4] at hk9
    all_goals
    obtain ⟨hk10, h⟩ := ck_some h
    have lhk10 := ix_lt hk10
    have xhk10 := getD_mapD Estimate_av t30 lhk10
    try simp only [go_sem] at lhk10
    try simp only [go_sem] at xhk10
    try simp only [go_sem, n1, n2, n3, n4, hk9] at hk10
    all_goals
    obtain ⟨y_11, hk11, h⟩ := bd_some h
    have fhk11 := Fs_impl_placeOf hk11
    try simp only [go_sem, hk9, hk10] at fhk11
    rcases it_some h with ⟨hk12, h⟩ | ⟨hk12, h⟩
    · try simp only [go_sem, n1, n2, n3, n4, hk9, hk10] at hk12
      all_goals
      obtain ⟨y_13, hk13, h⟩ := bd_some h
      have fhk13 := Fs_impl_placeOf hk13
      try simp only [go_sem, hk9, hk10, hk12] at fhk13
      obtain ⟨y_14, hk14, h⟩ := bd_some h
      have fhk14 := Fs_impl_fold hk14
      try simp only [go_sem, hk9, hk10, hk12] at fhk14
      obtain ⟨y_18, hk18, h⟩ := bd_some h
      obtain ⟨Lhk18, ehk18⟩ := impl_PackEstimates_l2_ex hk18
      obtain rfl := so_some h
      refine ⟨Lhk18, fun L hL => ?_⟩
      have ehk18 := ehk18 L (by omega)
      try simp only [go_sem, E_impl_PackEstimates_l1, R_impl_PackEstimates_l1, ir8_b0, ir8_k0, ir8_o0, ir8_r0, E_impl_PackEstimates_l2, R_impl_PackEstimates_l2, ir8_k1, ir8_o1, ir8_r1, E_impl_PackEstimates_l3, R_impl_PackEstimates_l3, ir8_k1, ir8_o1, ir8_r1, hk9, hk10, hk12] at ehk18
      simp only [go_sem, ir8, E_impl_PackEstimates_l1, R_impl_PackEstimates_l1, ir8_b0, ir8_k0, ir8_o0, ir8_r0, E_impl_PackEstimates_l2, R_impl_PackEstimates_l2, ir8_k1, ir8_o1, ir8_r1, E_impl_PackEstimates_l3, R_impl_PackEstimates_l3, ir8_k1, ir8_o1, ir8_r1, hk9, hk10, lhk10, xhk10, fhk11, hk12, fhk13, fhk14, ehk18]
    · try simp only [go_sem, n1, n2, n3, n4, hk9, hk10] at hk12
      all_goals
      obtain ⟨y_19, hk19, h⟩ := bd_some h
      have fhk19 := Fs_impl_placeOf hk19
      try simp only [go_sem, hk9, hk10, hk12] at fhk19
      obtain ⟨y_20, hk20, h⟩ := bd_some h
      have fhk20 := Fs_impl_fold hk20
      try simp only [go_sem, hk9, hk10, hk12] at fhk20
      obtain ⟨y_24, hk24, h⟩ := bd_some h
      obtain ⟨Lhk24, ehk24⟩ := impl_PackEstimates_l3_ex hk24
      obtain rfl := so_some h
      refine ⟨Lhk24, fun L hL => ?_⟩
      have ehk24 := ehk24 L (by omega)
      try simp only [go_sem, E_impl_PackEstimates_l1, R_impl_PackEstimates_l1, ir8_b0, ir8_k0, ir8_o0, ir8_r0, E_impl_PackEstimates_l2, R_impl_PackEstimates_l2, ir8_k1, ir8_o1, ir8_r1, E_impl_PackEstimates_l3, R_impl_PackEstimates_l3, ir8_k1, ir8_o1, ir8_r1, hk9, hk10, hk12] at ehk24
      simp only [go_sem, ir8, E_impl_PackEstimates_l1, R_impl_PackEstimates_l1, ir8_b0, ir8_k0, ir8_o0, ir8_r0, E_impl_PackEstimates_l2, R_impl_PackEstimates_l2, ir8_k1, ir8_o1, ir8_r1, E_impl_PackEstimates_l3, R_impl_PackEstimates_l3, ir8_k1, ir8_o1, ir8_r1, hk9, hk10, lhk10, xhk10, fhk11, hk12, fhk19, fhk20, ehk24]
  · try simp only [go_sem, n1, n2, n3, n4] at hk9
    all_goals
    obtain rfl := so_some h
    refine ⟨0, fun L hL => ?_⟩
    simp only [go_sem, ir8, E_impl_PackEstimates_l1, R_impl_PackEstimates_l1, ir8_b0, ir8_k0, ir8_o0, ir8_r0, E_impl_PackEstimates_l2, R_impl_PackEstimates_l2, ir8_k1, ir8_o1, ir8_r1, E_impl_PackEstimates_l3, R_impl_PackEstimates_l3, ir8_k1, ir8_o1, ir8_r1, hk9]

theorem Fs_impl_PackEstimates {list : List Estimate} {y_ : (List UInt8) × Int} (h : impl_PackEstimates list = some y_) : c_impl_PackEstimates.F [.sl 5 (List.map Estimate_av list)] = ⟨true, .tup [.fresh 1 (List.map byteAV y_.1), .int .i64 y_.2], [.any]⟩ := by
  refine mkF_E (by simp only [flatA, flatB, flat1, List.all_cons, List.all_nil, Bool.and_self, flatE_map (f := byteAV) (fun _ => rfl)]) ?_
  dsimp only [impl_PackEstimates] at h
  obtain ⟨y_1, hk1, h⟩ := bd_some h
  have fhk1 := Fs_impl_ValidEstimates hk1
  try simp only [go_sem] at fhk1
  rcases it_some h with ⟨hk2, h⟩ | ⟨hk2, h⟩
  · try simp only [go_sem, n1, n2, n3, n4] at hk2
    all_goals
    obtain rfl := so_some h
    refine ⟨0, fun L hL => ?_⟩
    simp only [go_sem, ir8, E_impl_PackEstimates_l2, R_impl_PackEstimates_l2, ir8_k1, ir8_o1, ir8_r1, E_impl_PackEstimates_l3, R_impl_PackEstimates_l3, ir8_k1, ir8_o1, ir8_r1, E_impl_PackEstimates_l1, R_impl_PackEstimates_l1, ir8_k0, ir8_o0, ir8_r0, fhk1, hk2]
  · try simp only [go_sem, n1, n2, n3, n4] at hk2
    all_goals
    obtain ⟨y_3, hk3, h⟩ := bd_some h
    have fhk3 := Fs_impl_namesOf__impl_starOf hk3
    try simp only [go_sem, hk2] at fhk3
    obtain ⟨y_4, hk4, h⟩ := bd_some h
    have fhk4 := Fs_impl_namesOf__impl_observerOf hk4
    try simp only [go_sem, hk2] at fhk4
    obtain ⟨y_5, hk5, h⟩ := bd_some h
    have fhk5 := Fs_impl_appendNames hk5
    try simp only [go_sem, hk2] at fhk5
    obtain ⟨y_6, hk6, h⟩ := bd_some h
    have fhk6 := Fs_impl_appendNames hk6
    try simp only [go_sem, hk2] at fhk6
    obtain ⟨y_7, hk7, h⟩ := bd_some h
    have fhk7 := Fs_impl_count_impl_Estimate hk7
    try simp only [go_sem, hk2] at fhk7
    obtain ⟨y_8, hk8, h⟩ := bd_some h
    have fhk8 := Fs_impl_appendNumber hk8
    try simp only [go_sem, hk2] at fhk8
    obtain ⟨y_25, hk25, h⟩ := bd_some h
    obtain ⟨Lhk25, ehk25⟩ := impl_PackEstimates_l1_ex hk25
    obtain ⟨y_26, hk26, h⟩ := bd_some h
    have fhk26 := Fs_impl_sealed hk26
    try simp only [go_sem, hk2] at fhk26
    obtain rfl := so_some h
    refine ⟨Lhk25, fun L hL => ?_⟩
    have ehk25 := ehk25 L (by omega)
    try simp only [go_sem, E_impl_PackEstimates_l2, R_impl_PackEstimates_l2, ir8_k1, ir8_o1, ir8_r1, E_impl_PackEstimates_l3, R_impl_PackEstimates_l3, ir8_k1, ir8_o1, ir8_r1, E_impl_PackEstimates_l1, R_impl_PackEstimates_l1, ir8_k0, ir8_o0, ir8_r0, hk2] at ehk25
    simp only [go_sem, ir8, E_impl_PackEstimates_l2, R_impl_PackEstimates_l2, ir8_k1, ir8_o1, ir8_r1, E_impl_PackEstimates_l3, R_impl_PackEstimates_l3, ir8_k1, ir8_o1, ir8_r1, E_impl_PackEstimates_l1, R_impl_PackEstimates_l1, ir8_k0, ir8_o0, ir8_r0, fhk1, hk2, fhk3, fhk4, fhk5, fhk6, fhk7, fhk8, fhk26, ehk25]


def ir9_b0 : IR := .seq (.test false [
    ⟨.push, 11, none, .mov (.v 3)⟩,
    ⟨.push, 12, none, .mov (.v 0)⟩,
    ⟨.push, 13, none, .len false (.s 0)⟩,
    ⟨.push, 14, none, .bin false .lss (.s 2) (.s 0)⟩] (.s 0)
  (.skip)
  (.exit 0))
 (.seq (.block 1 (.anyo 9 [
     ⟨.slot 0, 17, none, .mov (.v 0)⟩,
     ⟨.slot 1, 18, none, .mov (.v 3)⟩,
     ⟨.slot 2, 19, none, .ixAddr 1 (.s 0) (.s 1)⟩,
     ⟨.slot 3, 20, none, .load false 1 (.s 2)⟩,
     ⟨.slot 4, 21, none, .mov (.v 1)⟩,
     ⟨.slot 5, 22, none, .mov (.v 3)⟩,
     ⟨.slot 6, 23, none, .ixAddr 1 (.s 4) (.s 5)⟩,
     ⟨.slot 7, 24, none, .load false 1 (.s 6)⟩,
     ⟨.slot 8, 25, none, .bin false .neq (.s 3) (.s 7)⟩] [] (.cond (.s 8)
   (.seq (.region false [
       ⟨.var 2, 4, none, .mov (.c (.bool false))⟩])
    (.ret))
   (.skip))))
 (.region false [
   ⟨.push, 15, none, .mov (.v 3)⟩,
   ⟨.push, 16, none, .bin false .add (.s 0) (.c (.int .i64 (1)))⟩,
   ⟨.var 3, 5, none, .mov (.s 0)⟩]))
def ir9_k0 : List Bool := [true, true, false, true]
def ir9_o0 : List Bool := [false, false, false, false]
def ir9_r0 : List Bool := [false, false, true, false]
def ir9_v : List Nat := [0, 1, 4, 5]
def ir9 : AFn := ⟨2, 4, .seq (.region false [
    ⟨.var 2, 4, none, .mov (.c (.bool false))⟩])
 (.seq (.test false [
    ⟨.push, 6, none, .mov (.v 0)⟩,
    ⟨.push, 7, none, .len false (.s 0)⟩,
    ⟨.push, 8, none, .mov (.v 1)⟩,
    ⟨.push, 9, none, .len false (.s 0)⟩,
    ⟨.push, 10, none, .bin false .neq (.s 2) (.s 0)⟩] (.s 0)
  (.seq (.region false [
      ⟨.var 2, 4, none, .mov (.c (.bool false))⟩])
   (.ret))
  (.skip))
 (.seq (.seq (.region false [
     ⟨.var 3, 5, none, .mov (.c (.int .i64 (0)))⟩])
  (.block 0 (.loop ir9_k0 ir9_o0 ir9_r0 ir9_b0)))
 (.seq (.region false [
    ⟨.var 2, 4, none, .mov (.c (.bool true))⟩])
 (.ret)))), [.t 2]⟩
noncomputable def t_laws_eqByteS : List (Nat × Ctr) := []
noncomputable def c_laws_eqByteS : Ctr := mkF t_laws_eqByteS ir9 [.bor, .bor]
theorem s_laws_eqByteS : Sound Try.prog 9 c_laws_eqByteS := mkF_sound _ rfl snd_nil (by kernel_rfl : chkFn Try.prog 9 ir9 ir9_v = true)
theorem M_laws_eqByteS : c_laws_eqByteS.modes = [.bor, .bor] := rfl
theorem Fl_laws_eqByteS : c_laws_eqByteS.flat = true := rfl
attribute [go_sem] M_laws_eqByteS Fl_laws_eqByteS
def E_laws_eqByteS_l1 (a : List UInt8) (b : List UInt8) : Int → St
  | i => ⟨[.sl 1 (List.map byteAV a), .sl 1 (List.map byteAV b), .any, .int .i64 i], [], [], true⟩
def R_laws_eqByteS_l1 (a : List UInt8) (b : List UInt8) : (Unit ⊕ Bool) → Res
  | .inl y => (.exit 0, ⟨[.any, .any, .any, .any], [], [], true⟩)
  | .inr y => (.ret, ⟨[.any, .any, .bool y, .any], [], [], true⟩)
theorem laws_eqByteS_l1_ex {a : List UInt8} {b : List UInt8} {sgm_ : Int} {rho_ : Unit ⊕ Bool} (h : whileE (laws_eqByteS_l1 a b) sgm_ = some rho_) : ∃ L0, ∀ L, L0 ≤ L → iter (exec (look t_laws_eqByteS) L ir9_b0) ir9_k0 ir9_o0 ir9_r0 L (E_laws_eqByteS_l1 a b sgm_) = R_laws_eqByteS_l1 a b rho_ := by
  refine loop_ex (E := E_laws_eqByteS_l1 a b) (R := R_laws_eqByteS_l1 a b) (fun y => by first | (intro c; cases c) | (rcases y with y | y <;> (intro c; cases c)) | (rcases y with y | y | y <;> (intro c; cases c))) ?_ h
  clear h
  intro i o_ h
  dsimp only [laws_eqByteS_l1] at h
  rcases it_some h with ⟨hk2, h⟩ | ⟨hk2, h⟩
  · try simp only [go_sem, n1, n2, n3, n4] at hk2
    all_goals
    obtain ⟨hk3, h⟩ := ck_some h
    have lhk3 := ix_lt hk3
    have xhk3 := getD_mapD byteAV a lhk3
    try simp only [go_sem] at lhk3
    try simp only [go_sem] at xhk3
    try simp only [go_sem, n1, n2, n3, n4, hk2] at hk3
    all_goals
    obtain ⟨hk4, h⟩ := ck_some h
    have lhk4 := ix_lt hk4
    have xhk4 := getD_mapD byteAV b lhk4
    try simp only [go_sem] at lhk4
    try simp only [go_sem] at xhk4
    try simp only [go_sem, n1, n2, n3, n4, hk2, hk3] at hk4
    all_goals
    rcases it_some h with ⟨hk5, h⟩ | ⟨hk5, h⟩
    · try simp only [go_sem, n1, n2, n3, n4, hk2, hk3, hk4] at hk5
      all_goals
      obtain rfl := so_some h
      refine ⟨0, fun L hL => ?_⟩
      simp only [go_sem, ir9, E_laws_eqByteS_l1, R_laws_eqByteS_l1, ir9_b0, ir9_k0, ir9_o0, ir9_r0, hk2, hk3, lhk3, xhk3, hk4, lhk4, xhk4, hk5]
    · try simp only [go_sem, n1, n2, n3, n4, hk2, hk3, hk4] at hk5
      all_goals
      obtain rfl := so_some h
      refine ⟨0, fun L hL => ?_⟩
      simp only [go_sem, ir9, E_laws_eqByteS_l1, R_laws_eqByteS_l1, ir9_b0, ir9_k0, ir9_o0, ir9_r0, hk2, hk3, lhk3, xhk3, hk4, lhk4, xhk4, hk5]
  · try simp only [go_sem, n1, n2, n3, n4] at hk2
    all_goals
    obtain rfl := so_some h
    refine ⟨0, fun L hL => ?_⟩
    simp only [go_sem, ir9, E_laws_eqByteS_l1, R_laws_eqByteS_l1, ir9_b0, ir9_k0, ir9_o0, ir9_r0, hk2]

theorem Fs_laws_eqByteS {a : List UInt8} {b : List UInt8} {y_ : Bool} (h : laws_eqByteS a b = some y_) : c_laws_eqByteS.F [.sl 1 (List.map byteAV a), .sl 1 (List.map byteAV b)] = ⟨true, .bool y_, [.any, .any]⟩ := by
  refine mkF_E rfl ?_
  dsimp only [laws_eqByteS] at h
  rcases it_some h with ⟨hk1, h⟩ | ⟨hk1, h⟩
  · try simp only [go_sem, n1, n2, n3, n4] at hk1
    all_goals
    obtain rfl := so_some h
    refine ⟨0, fun L hL => ?_⟩
    simp only [go_sem, ir9, E_laws_eqByteS_l1, R_laws_eqByteS_l1, ir9_k0, ir9_o0, ir9_r0, hk1]
  · try simp only [go_sem, n1, n2, n3, n4] at hk1
    all_goals
    obtain ⟨y_6, hk6, h⟩ := bd_some h
    obtain ⟨Lhk6, ehk6⟩ := laws_eqByteS_l1_ex hk6
    rcases y_6 with y_6a | y_6b
    · dsimp only at h
      obtain rfl := so_some h
      refine ⟨Lhk6, fun L hL => ?_⟩
      have ehk6 := ehk6 L (by omega)
      try simp only [go_sem, E_laws_eqByteS_l1, R_laws_eqByteS_l1, ir9_k0, ir9_o0, ir9_r0, hk1] at ehk6
      simp only [go_sem, ir9, E_laws_eqByteS_l1, R_laws_eqByteS_l1, ir9_k0, ir9_o0, ir9_r0, hk1, ehk6]
    · dsimp only at h
      obtain rfl := so_some h
      refine ⟨Lhk6, fun L hL => ?_⟩
      have ehk6 := ehk6 L (by omega)
      try simp only [go_sem, E_laws_eqByteS_l1, R_laws_eqByteS_l1, ir9_k0, ir9_o0, ir9_r0, hk1] at ehk6
      simp only [go_sem, ir9, E_laws_eqByteS_l1, R_laws_eqByteS_l1, ir9_k0, ir9_o0, ir9_r0, hk1, ehk6]


def ir32_v : List Nat := [0, 1, 2, 3, 4]
def ir32 : AFn := ⟨2, 5, .seq (.region false [
    ⟨.var 2, 2, none, .box (.v 0)⟩,
    ⟨.var 3, 3, none, .box (.v 1)⟩,
    ⟨.var 4, 4, none, .mov (.c (.bool false))⟩])
 (.seq (.test false [
    ⟨.push, 5, none, .fldAddr 0 (.v 2)⟩,
    ⟨.push, 6, none, .load false 1 (.s 0)⟩,
    ⟨.push, 7, none, .fldAddr 0 (.v 3)⟩,
    ⟨.push, 8, none, .load false 1 (.s 0)⟩,
    ⟨.push, 9, none, .bin false .neq (.s 2) (.s 0)⟩] (.s 0)
  (.seq (.region false [
      ⟨.var 4, 4, none, .mov (.c (.bool false))⟩])
   (.ret))
  (.skip))
 (.seq (.test false [
    ⟨.push, 10, none, .fldAddr 1 (.v 2)⟩,
    ⟨.push, 11, none, .load false 1 (.s 0)⟩,
    ⟨.push, 12, none, .fldAddr 1 (.v 3)⟩,
    ⟨.push, 13, none, .load false 1 (.s 0)⟩,
    ⟨.push, 14, none, .bin false .neq (.s 2) (.s 0)⟩] (.s 0)
  (.seq (.region false [
      ⟨.var 4, 4, none, .mov (.c (.bool false))⟩])
   (.ret))
  (.skip))
 (.seq (.test false [
    ⟨.push, 15, none, .fldAddr 2 (.v 2)⟩,
    ⟨.push, 16, none, .load false 1 (.s 0)⟩,
    ⟨.push, 17, none, .fldAddr 2 (.v 3)⟩,
    ⟨.push, 18, none, .load false 1 (.s 0)⟩,
    ⟨.push, 19, none, .bin false .neq (.s 2) (.s 0)⟩] (.s 0)
  (.seq (.region false [
      ⟨.var 4, 4, none, .mov (.c (.bool false))⟩])
   (.ret))
  (.skip))
 (.seq (.test false [
    ⟨.push, 20, none, .fldAddr 3 (.v 2)⟩,
    ⟨.push, 21, none, .load false 1 (.s 0)⟩,
    ⟨.push, 22, none, .fldAddr 3 (.v 3)⟩,
    ⟨.push, 23, none, .load false 1 (.s 0)⟩,
    ⟨.push, 24, none, .bin false .neq (.s 2) (.s 0)⟩] (.s 0)
  (.seq (.region false [
      ⟨.var 4, 4, none, .mov (.c (.bool false))⟩])
   (.ret))
  (.skip))
 (.seq (.test false [
    ⟨.push, 25, none, .fldAddr 4 (.v 2)⟩,
    ⟨.push, 26, none, .load false 1 (.s 0)⟩,
    ⟨.push, 27, none, .fldAddr 4 (.v 3)⟩,
    ⟨.push, 28, none, .load false 1 (.s 0)⟩,
    ⟨.push, 29, none, .bin true .neq (.s 2) (.s 0)⟩] (.s 0)
  (.seq (.region false [
      ⟨.var 4, 4, none, .mov (.c (.bool false))⟩])
   (.ret))
  (.skip))
 (.seq (.region false [
    ⟨.var 4, 4, none, .mov (.c (.bool true))⟩])
 (.ret))))))), [.t 4]⟩
noncomputable def t_laws_eqEstimate : List (Nat × Ctr) := []
noncomputable def c_laws_eqEstimate : Ctr := mkF t_laws_eqEstimate ir32 [.bor, .bor]
theorem s_laws_eqEstimate : Sound Try.prog 32 c_laws_eqEstimate := mkF_sound _ rfl snd_nil (by kernel_rfl : chkFn Try.prog 32 ir32 ir32_v = true)
theorem M_laws_eqEstimate : c_laws_eqEstimate.modes = [.bor, .bor] := rfl
theorem Fl_laws_eqEstimate : c_laws_eqEstimate.flat = true := rfl
attribute [go_sem] M_laws_eqEstimate Fl_laws_eqEstimate
theorem Fs_laws_eqEstimate {a : Estimate} {b : Estimate} {y_ : Bool} (h : laws_eqEstimate a b = some y_) : c_laws_eqEstimate.F [Estimate_av a, Estimate_av b] = ⟨true, .bool y_, [.any, .any]⟩ := by
  refine mkF_E rfl ?_
  dsimp only [laws_eqEstimate] at h
  rcases it_some h with ⟨hk1, h⟩ | ⟨hk1, h⟩
  · try simp only [go_sem, n1, n2, n3, n4] at hk1
    all_goals
    obtain rfl := so_some h
    refine ⟨0, fun L hL => ?_⟩
    simp only [go_sem, ir32, hk1]
  · try simp only [go_sem, n1, n2, n3, n4] at hk1
    all_goals
    rcases it_some h with ⟨hk2, h⟩ | ⟨hk2, h⟩
    · try simp only [go_sem, n1, n2, n3, n4, hk1] at hk2
      all_goals
      obtain rfl := so_some h
      refine ⟨0, fun L hL => ?_⟩
      simp only [go_sem, ir32, hk1, hk2]
    · try simp only [go_sem, n1, n2, n3, n4, hk1] at hk2
      all_goals
      rcases it_some h with ⟨hk3, h⟩ | ⟨hk3, h⟩
      · try simp only [go_sem, n1, n2, n3, n4, hk1, hk2] at hk3
        all_goals
        obtain rfl := so_some h
        refine ⟨0, fun L hL => ?_⟩
        simp only [go_sem, ir32, hk1, hk2, hk3]
      · try simp only [go_sem, n1, n2, n3, n4, hk1, hk2] at hk3
        all_goals
        rcases it_some h with ⟨hk4, h⟩ | ⟨hk4, h⟩
        · try simp only [go_sem, n1, n2, n3, n4, hk1, hk2, hk3] at hk4
          all_goals
          obtain rfl := so_some h
          refine ⟨0, fun L hL => ?_⟩
          simp only [go_sem, ir32, hk1, hk2, hk3, hk4]
        · try simp only [go_sem, n1, n2, n3, n4, hk1, hk2, hk3] at hk4
          all_goals
          rcases it_some h with ⟨hk5, h⟩ | ⟨hk5, h⟩
          · try simp only [go_sem, n1, n2, n3, n4, hk1, hk2, hk3, hk4] at hk5
            all_goals
            obtain rfl := so_some h
            refine ⟨0, fun L hL => ?_⟩
            simp only [go_sem, ir32, hk1, hk2, hk3, hk4, hk5]
          · try simp only [go_sem, n1, n2, n3, n4, hk1, hk2, hk3, hk4] at hk5
            all_goals
            obtain rfl := so_some h
            refine ⟨0, fun L hL => ?_⟩
            simp only [go_sem, ir32, hk1, hk2, hk3, hk4, hk5]


def ir10_b0 : IR := .seq (.test false [
    ⟨.push, 11, none, .mov (.v 3)⟩,
    ⟨.push, 12, none, .mov (.v 0)⟩,
    ⟨.push, 13, none, .len false (.s 0)⟩,
    ⟨.push, 14, none, .bin false .lss (.s 2) (.s 0)⟩] (.s 0)
  (.skip)
  (.exit 0))
 (.seq (.block 1 (.anyo 10 [
     ⟨.slot 0, 17, none, .mov (.v 0)⟩,
     ⟨.slot 1, 18, none, .mov (.v 3)⟩,
     ⟨.slot 2, 19, none, .ixAddr 5 (.s 0) (.s 1)⟩,
     ⟨.slot 3, 20, none, .load true 5 (.s 2)⟩,
     ⟨.slot 4, 21, none, .mov (.v 1)⟩,
     ⟨.slot 5, 22, none, .mov (.v 3)⟩,
     ⟨.slot 6, 23, none, .ixAddr 5 (.s 4) (.s 5)⟩,
     ⟨.slot 7, 24, none, .load true 5 (.s 6)⟩,
     ⟨.slot 8, 25, none, .callp 32 [(.s 3), (.s 7)]⟩,
     ⟨.slot 9, 26, none, .un .not (.s 8)⟩] [] (.cond (.s 9)
   (.seq (.region false [
       ⟨.var 2, 4, none, .mov (.c (.bool false))⟩])
    (.ret))
   (.skip))))
 (.region false [
   ⟨.push, 15, none, .mov (.v 3)⟩,
   ⟨.push, 16, none, .bin false .add (.s 0) (.c (.int .i64 (1)))⟩,
   ⟨.var 3, 5, none, .mov (.s 0)⟩]))
def ir10_k0 : List Bool := [true, true, false, true]
def ir10_o0 : List Bool := [false, false, false, false]
def ir10_r0 : List Bool := [false, false, true, false]
def ir10_v : List Nat := [0, 1, 4, 5]
def ir10 : AFn := ⟨2, 4, .seq (.region false [
    ⟨.var 2, 4, none, .mov (.c (.bool false))⟩])
 (.seq (.test false [
    ⟨.push, 6, none, .mov (.v 0)⟩,
    ⟨.push, 7, none, .len false (.s 0)⟩,
    ⟨.push, 8, none, .mov (.v 1)⟩,
    ⟨.push, 9, none, .len false (.s 0)⟩,
    ⟨.push, 10, none, .bin false .neq (.s 2) (.s 0)⟩] (.s 0)
  (.seq (.region false [
      ⟨.var 2, 4, none, .mov (.c (.bool false))⟩])
   (.ret))
  (.skip))
 (.seq (.seq (.region false [
     ⟨.var 3, 5, none, .mov (.c (.int .i64 (0)))⟩])
  (.block 0 (.loop ir10_k0 ir10_o0 ir10_r0 ir10_b0)))
 (.seq (.region false [
    ⟨.var 2, 4, none, .mov (.c (.bool true))⟩])
 (.ret)))), [.t 2]⟩
noncomputable def t_laws_eqEstimateS : List (Nat × Ctr) := [(32, c_laws_eqEstimate)]
theorem lk_laws_eqEstimateS_32 : look t_laws_eqEstimateS 32 = some c_laws_eqEstimate := rfl
noncomputable def c_laws_eqEstimateS : Ctr := mkF t_laws_eqEstimateS ir10 [.bor, .bor]
theorem s_laws_eqEstimateS : Sound Try.prog 10 c_laws_eqEstimateS := mkF_sound _ rfl (snd_cons s_laws_eqEstimate snd_nil) (by kernel_rfl : chkFn Try.prog 10 ir10 ir10_v = true)
theorem M_laws_eqEstimateS : c_laws_eqEstimateS.modes = [.bor, .bor] := rfl
theorem Fl_laws_eqEstimateS : c_laws_eqEstimateS.flat = true := rfl
attribute [go_sem] M_laws_eqEstimateS Fl_laws_eqEstimateS
attribute [go_sem] lk_laws_eqEstimateS_32
def E_laws_eqEstimateS_l1 (a : List Estimate) (b : List Estimate) : Int → St
  | i => ⟨[.sl 5 (List.map Estimate_av a), .sl 5 (List.map Estimate_av b), .any, .int .i64 i], [], [], true⟩
def R_laws_eqEstimateS_l1 (a : List Estimate) (b : List Estimate) : (Unit ⊕ Bool) → Res
  | .inl y => (.exit 0, ⟨[.any, .any, .any, .any], [], [], true⟩)
  | .inr y => (.ret, ⟨[.any, .any, .bool y, .any], [], [], true⟩)
theorem laws_eqEstimateS_l1_ex {a : List Estimate} {b : List Estimate} {sgm_ : Int} {rho_ : Unit ⊕ Bool} (h : whileE (laws_eqEstimateS_l1 a b) sgm_ = some rho_) : ∃ L0, ∀ L, L0 ≤ L → iter (exec (look t_laws_eqEstimateS) L ir10_b0) ir10_k0 ir10_o0 ir10_r0 L (E_laws_eqEstimateS_l1 a b sgm_) = R_laws_eqEstimateS_l1 a b rho_ := by
  refine loop_ex (E := E_laws_eqEstimateS_l1 a b) (R := R_laws_eqEstimateS_l1 a b) (fun y => by first | (intro c; cases c) | (rcases y with y | y <;> (intro c; cases c)) | (rcases y with y | y | y <;> (intro c; cases c))) ?_ h
  clear h
  intro i o_ h
  dsimp only [laws_eqEstimateS_l1] at h
  rcases it_some h with ⟨hk2, h⟩ | ⟨hk2, h⟩
  · try simp only [go_sem, n1, n2, n3, n4] at hk2
    all_goals
    obtain ⟨hk3, h⟩ := ck_some h
    have lhk3 := ix_lt hk3
    have xhk3 := getD_mapD Estimate_av a lhk3
    try simp only [go_sem] at lhk3
    try simp only [go_sem] at xhk3
    try simp only [go_sem, n1, n2, n3, n4, hk2] at hk3
    all_goals
    obtain ⟨hk4, h⟩ := ck_some h
    have lhk4 := ix_lt hk4
    have xhk4 := getD_mapD Estimate_av b lhk4
    try simp only [go_sem] at lhk4
    try simp only [go_sem] at xhk4
    try simp only [go_sem, n1, n2, n3, n4, hk2, hk3] at hk4
    all_goals
    obtain ⟨y_5, hk5, h⟩ := bd_some h
    have fhk5 := Fs_laws_eqEstimate hk5
    try simp only [go_sem, hk2, hk3, hk4] at fhk5
    rcases it_some h with ⟨hk6, h⟩ | ⟨hk6, h⟩
    · try simp only [go_sem, n1, n2, n3, n4, hk2, hk3, hk4] at hk6
      all_goals
      obtain rfl := so_some h
      refine ⟨0, fun L hL => ?_⟩
      simp only [go_sem, ir10, E_laws_eqEstimateS_l1, R_laws_eqEstimateS_l1, ir10_b0, ir10_k0, ir10_o0, ir10_r0, hk2, hk3, lhk3, xhk3, hk4, lhk4, xhk4, fhk5, hk6]
    · try simp only [go_sem, n1, n2, n3, n4, hk2, hk3, hk4] at hk6
      all_goals
      obtain rfl := so_some h
      refine ⟨0, fun L hL => ?_⟩
      simp only [go_sem, ir10, E_laws_eqEstimateS_l1, R_laws_eqEstimateS_l1, ir10_b0, ir10_k0, ir10_o0, ir10_r0, hk2, hk3, lhk3, xhk3, hk4, lhk4, xhk4, fhk5, hk6]
  · try simp only [go_sem, n1, n2, n3, n4] at hk2
    all_goals
    obtain rfl := so_some h
    refine ⟨0, fun L hL => ?_⟩
    simp only [go_sem, ir10, E_laws_eqEstimateS_l1, R_laws_eqEstimateS_l1, ir10_b0, ir10_k0, ir10_o0, ir10_r0, hk2]

theorem Fs_laws_eqEstimateS {a : List Estimate} {b : List Estimate} {y_ : Bool} (h : laws_eqEstimateS a b = some y_) : c_laws_eqEstimateS.F [.sl 5 (List.map Estimate_av a), .sl 5 (List.map Estimate_av b)] = ⟨true, .bool y_, [.any, .any]⟩ := by
  refine mkF_E rfl ?_
  dsimp only [laws_eqEstimateS] at h
  rcases it_some h with ⟨hk1, h⟩ | ⟨hk1, h⟩
  · try simp only [go_sem, n1, n2, n3, n4] at hk1
    all_goals
    obtain rfl := so_some h
    refine ⟨0, fun L hL => ?_⟩
    simp only [go_sem, ir10, E_laws_eqEstimateS_l1, R_laws_eqEstimateS_l1, ir10_k0, ir10_o0, ir10_r0, hk1]
  · try simp only [go_sem, n1, n2, n3, n4] at hk1
    all_goals
    obtain ⟨y_7, hk7, h⟩ := bd_some h
    obtain ⟨Lhk7, ehk7⟩ := laws_eqEstimateS_l1_ex hk7
    rcases y_7 with y_7a | y_7b
    · dsimp only at h
      obtain rfl := so_some h
      refine ⟨Lhk7, fun L hL => ?_⟩
      have ehk7 := ehk7 L (by omega)
      try simp only [go_sem, E_laws_eqEstimateS_l1, R_laws_eqEstimateS_l1, ir10_k0, ir10_o0, ir10_r0, hk1] at ehk7
      simp only [go_sem, ir10, E_laws_eqEstimateS_l1, R_laws_eqEstimateS_l1, ir10_k0, ir10_o0, ir10_r0, hk1, ehk7]
    · dsimp only at h
      obtain rfl := so_some h
      refine ⟨Lhk7, fun L hL => ?_⟩
      have ehk7 := ehk7 L (by omega)
      try simp only [go_sem, E_laws_eqEstimateS_l1, R_laws_eqEstimateS_l1, ir10_k0, ir10_o0, ir10_r0, hk1] at ehk7
      simp only [go_sem, ir10, E_laws_eqEstimateS_l1, R_laws_eqEstimateS_l1, ir10_k0, ir10_o0, ir10_r0, hk1, ehk7]


def ir33_b0 : IR := .seq (.test false [
    ⟨.push, 6, none, .mov (.v 0)⟩,
    ⟨.push, 7, none, .bin false .gtr (.s 0) (.c (.int .i64 (0)))⟩] (.s 0)
  (.skip)
  (.exit 0))
 (.block 1 (.seq (.region false [
     ⟨.push, 8, none, .mov (.v 0)⟩,
     ⟨.push, 9, none, .bin false .rem (.s 0) (.c (.int .i64 (10)))⟩,
     ⟨.push, 10, none, .bin false .add (.c (.int .i64 (48))) (.s 0)⟩,
     ⟨.push, 11, none, .conv .u8 (.s 0)⟩,
     ⟨.push, 12, none, .mkSl 1 (.int .u8 (0)) 1 [(0, (.s 0))]⟩,
     ⟨.push, 13, none, .b2s (.s 0)⟩,
     ⟨.push, 14, none, .mov (.v 2)⟩,
     ⟨.push, 15, none, .bin false .add (.s 1) (.s 0)⟩,
     ⟨.var 2, 3, none, .mov (.s 0)⟩])
  (.region false [
    ⟨.push, 16, none, .mov (.v 0)⟩,
    ⟨.push, 17, none, .bin false .quo (.s 0) (.c (.int .i64 (10)))⟩,
    ⟨.var 0, 0, none, .mov (.s 0)⟩])))
def ir33_k0 : List Bool := [true, false, true]
def ir33_o0 : List Bool := [false, false, true]
def ir33_r0 : List Bool := [false, true, false]
def ir33_v : List Nat := [0, 2, 3]
def ir33 : AFn := ⟨1, 3, .seq (.region false [
    ⟨.var 1, 2, none, .mov (.c (.str []))⟩])
 (.seq (.test false [
    ⟨.push, 4, none, .mov (.v 0)⟩,
    ⟨.push, 5, none, .bin false .leq (.s 0) (.c (.int .i64 (0)))⟩] (.s 0)
  (.seq (.region false [
      ⟨.var 1, 2, none, .mov (.c (.str [109, 48]))⟩])
   (.ret))
  (.skip))
 (.seq (.region false [
    ⟨.var 2, 3, none, .mov (.c (.str []))⟩])
 (.seq (.block 0 (.loop ir33_k0 ir33_o0 ir33_r0 ir33_b0))
 (.seq (.region false [
    ⟨.push, 18, none, .mov (.v 2)⟩,
    ⟨.push, 19, none, .bin false .add (.c (.str [109])) (.s 0)⟩,
    ⟨.var 1, 2, none, .mov (.s 0)⟩])
 (.ret))))), [.t 1]⟩
noncomputable def t_laws_markText : List (Nat × Ctr) := []
noncomputable def c_laws_markText : Ctr := mkF t_laws_markText ir33 [.bor]
theorem s_laws_markText : Sound Try.prog 33 c_laws_markText := mkF_sound _ rfl snd_nil (by kernel_rfl : chkFn Try.prog 33 ir33 ir33_v = true)
theorem M_laws_markText : c_laws_markText.modes = [.bor] := rfl
theorem Fl_laws_markText : c_laws_markText.flat = true := rfl
attribute [go_sem] M_laws_markText Fl_laws_markText
def E_laws_markText_l1  : (Int × (List UInt8)) → St
  | (k, out) => ⟨[.int .i64 k, .any, .str out], [], [], true⟩
def R_laws_markText_l1  (y : (List UInt8)) : Res := (.exit 0, ⟨[.any, .any, .str y], [], [], true⟩)
theorem laws_markText_l1_ex  {sgm_ : Int × (List UInt8)} {rho_ : (List UInt8)} (h : whileE (laws_markText_l1) sgm_ = some rho_) : ∃ L0, ∀ L, L0 ≤ L → iter (exec (look t_laws_markText) L ir33_b0) ir33_k0 ir33_o0 ir33_r0 L (E_laws_markText_l1 sgm_) = R_laws_markText_l1 rho_ := by
  refine loop_ex (E := E_laws_markText_l1) (R := R_laws_markText_l1) (fun y => by first | (intro c; cases c) | (rcases y with y | y <;> (intro c; cases c)) | (rcases y with y | y | y <;> (intro c; cases c))) ?_ h
  clear h
  rintro ⟨k, out⟩ o_ h
  dsimp only [laws_markText_l1] at h
  rcases it_some h with ⟨hk2, h⟩ | ⟨hk2, h⟩
  · try simp only [go_sem, n1, n2, n3, n4] at hk2
    all_goals
    obtain ⟨hk3, h⟩ := ck_some h
    try simp only [go_sem, n1, n2, n3, n4, hk2] at hk3
    all_goals
    obtain ⟨hk4, h⟩ := ck_some h
    try simp only [go_sem, n1, n2, n3, n4, hk2, hk3] at hk4
    all_goals
    obtain rfl := so_some h
    refine ⟨0, fun L hL => ?_⟩
    simp only [go_sem, ir33, E_laws_markText_l1, R_laws_markText_l1, ir33_b0, ir33_k0, ir33_o0, ir33_r0, hk2, hk3, hk4]
  · try simp only [go_sem, n1, n2, n3, n4] at hk2
    all_goals
    obtain rfl := so_some h
    refine ⟨0, fun L hL => ?_⟩
    simp only [go_sem, ir33, E_laws_markText_l1, R_laws_markText_l1, ir33_b0, ir33_k0, ir33_o0, ir33_r0, hk2]

theorem Fs_laws_markText {k : Int} {y_ : (List UInt8)} (h : laws_markText k = some y_) : c_laws_markText.F [.int .i64 k] = ⟨true, .str y_, [.any]⟩ := by
  refine mkF_E rfl ?_
  dsimp only [laws_markText] at h
  rcases it_some h with ⟨hk1, h⟩ | ⟨hk1, h⟩
  · try simp only [go_sem, n1, n2, n3, n4] at hk1
    all_goals
    obtain rfl := so_some h
    refine ⟨0, fun L hL => ?_⟩
    simp only [go_sem, ir33, E_laws_markText_l1, R_laws_markText_l1, ir33_k0, ir33_o0, ir33_r0, hk1]
  · try simp only [go_sem, n1, n2, n3, n4] at hk1
    all_goals
    obtain ⟨y_5, hk5, h⟩ := bd_some h
    obtain ⟨Lhk5, ehk5⟩ := laws_markText_l1_ex hk5
    obtain ⟨hk6, h⟩ := ck_some h
    try simp only [go_sem, n1, n2, n3, n4, hk1] at hk6
    all_goals
    obtain rfl := so_some h
    refine ⟨Lhk5, fun L hL => ?_⟩
    have ehk5 := ehk5 L (by omega)
    try simp only [go_sem, E_laws_markText_l1, R_laws_markText_l1, ir33_k0, ir33_o0, ir33_r0, hk1, hk6] at ehk5
    simp only [go_sem, ir33, E_laws_markText_l1, R_laws_markText_l1, ir33_k0, ir33_o0, ir33_r0, hk1, hk6, ehk5]


def ir11_b0 : IR := .seq (.test false [
    ⟨.push, 6, none, .mov (.v 3)⟩,
    ⟨.push, 7, none, .mov (.v 0)⟩,
    ⟨.push, 8, none, .len false (.s 0)⟩,
    ⟨.push, 9, none, .bin false .lss (.s 2) (.s 0)⟩] (.s 0)
  (.skip)
  (.exit 0))
 (.seq (.block 1 (.seq (.region false [
      ⟨.push, 12, none, .mov (.v 0)⟩,
      ⟨.push, 13, none, .mov (.v 3)⟩,
      ⟨.push, 14, none, .mov (.v 1)⟩,
      ⟨.push, 15, none, .ixAddr 5 (.s 2) (.s 1)⟩,
      ⟨.push, 16, none, .fldAddr 0 (.s 0)⟩,
      ⟨.no, 0, none, .store 1 (.s 0) (.s 2)⟩])
   (.seq (.region false [
      ⟨.push, 17, none, .mov (.v 1)⟩,
      ⟨.push, 18, none, .bin false .add (.s 0) (.c (.int .i64 (1)))⟩,
      ⟨.var 1, 1, none, .mov (.s 0)⟩])
   (.seq (.region false [
      ⟨.push, 19, none, .mov (.v 0)⟩,
      ⟨.push, 20, none, .mov (.v 3)⟩,
      ⟨.push, 21, none, .mov (.v 1)⟩,
      ⟨.push, 22, none, .call 33 [(.s 0)]⟩,
      ⟨.push, 23, none, .ixAddr 5 (.s 3) (.s 2)⟩,
      ⟨.push, 24, none, .fldAddr 1 (.s 0)⟩,
      ⟨.no, 0, none, .store 1 (.s 0) (.s 2)⟩])
   (.seq (.region false [
      ⟨.push, 25, none, .mov (.v 1)⟩,
      ⟨.push, 26, none, .bin false .add (.s 0) (.c (.int .i64 (1)))⟩,
      ⟨.var 1, 1, none, .mov (.s 0)⟩])
   (.seq (.region false [
      ⟨.push, 27, none, .mov (.v 0)⟩,
      ⟨.push, 28, none, .mov (.v 3)⟩,
      ⟨.push, 29, none, .mov (.v 1)⟩,
      ⟨.push, 30, none, .call 33 [(.s 0)]⟩,
      ⟨.push, 31, none, .ixAddr 5 (.s 3) (.s 2)⟩,
      ⟨.push, 32, none, .fldAddr 2 (.s 0)⟩,
      ⟨.no, 0, none, .store 1 (.s 0) (.s 2)⟩])
   (.seq (.region false [
      ⟨.push, 33, none, .mov (.v 1)⟩,
      ⟨.push, 34, none, .bin false .add (.s 0) (.c (.int .i64 (1)))⟩,
      ⟨.var 1, 1, none, .mov (.s 0)⟩])
   (.seq (.region false [
      ⟨.push, 35, none, .mov (.v 0)⟩,
      ⟨.push, 36, none, .mov (.v 3)⟩,
      ⟨.push, 37, none, .mov (.v 1)⟩,
      ⟨.push, 38, none, .ixAddr 5 (.s 2) (.s 1)⟩,
      ⟨.push, 39, none, .fldAddr 3 (.s 0)⟩,
      ⟨.no, 0, none, .store 1 (.s 0) (.s 2)⟩])
   (.seq (.region false [
      ⟨.push, 40, none, .mov (.v 1)⟩,
      ⟨.push, 41, none, .bin false .add (.s 0) (.c (.int .i64 (1)))⟩,
      ⟨.var 1, 1, none, .mov (.s 0)⟩])
   (.seq (.region false [
      ⟨.push, 42, none, .mov (.v 0)⟩,
      ⟨.push, 43, none, .mov (.v 3)⟩,
      ⟨.push, 44, none, .mov (.v 1)⟩,
      ⟨.push, 45, none, .bin false .rem (.s 0) (.c (.int .i64 (3)))⟩,
      ⟨.push, 46, none, .bin false .eql (.s 0) (.c (.int .i64 (0)))⟩,
      ⟨.push, 47, none, .ixAddr 5 (.s 4) (.s 3)⟩,
      ⟨.push, 48, none, .fldAddr 4 (.s 0)⟩,
      ⟨.no, 0, none, .store 1 (.s 0) (.s 2)⟩])
   (.region false [
     ⟨.push, 49, none, .mov (.v 1)⟩,
     ⟨.push, 50, none, .bin false .add (.s 0) (.c (.int .i64 (1)))⟩,
     ⟨.var 1, 1, none, .mov (.s 0)⟩])))))))))))
 (.region false [
   ⟨.push, 10, none, .mov (.v 3)⟩,
   ⟨.push, 11, none, .bin false .add (.s 0) (.c (.int .i64 (1)))⟩,
   ⟨.var 3, 5, none, .mov (.s 0)⟩]))
def ir11_k0 : List Bool := [true, true, false, true]
def ir11_o0 : List Bool := [true, true, false, false]
def ir11_r0 : List Bool := [true, false, true, false]
def ir11_v : List Nat := [0, 1, 4, 5]
def ir11 : AFn := ⟨2, 4, .seq (.region false [
    ⟨.var 2, 4, none, .mov (.c (.int .i64 (0)))⟩])
 (.seq (.seq (.region false [
     ⟨.var 3, 5, none, .mov (.c (.int .i64 (0)))⟩])
  (.block 0 (.loop ir11_k0 ir11_o0 ir11_r0 ir11_b0)))
 (.seq (.region false [
    ⟨.push, 51, none, .mov (.v 1)⟩,
    ⟨.var 2, 4, none, .mov (.s 0)⟩])
 (.ret))), [.t 2]⟩
noncomputable def t_laws_markEstimateS : List (Nat × Ctr) := [(33, c_laws_markText)]
theorem lk_laws_markEstimateS_33 : look t_laws_markEstimateS 33 = some c_laws_markText := rfl
noncomputable def c_laws_markEstimateS : Ctr := mkN t_laws_markEstimateS ir11 [.io, .bor]
theorem s_laws_markEstimateS : Sound Try.prog 11 c_laws_markEstimateS := mkN_sound _ (snd_cons s_laws_markText snd_nil) (by kernel_rfl : chkFn Try.prog 11 ir11 ir11_v = true)
theorem M_laws_markEstimateS : c_laws_markEstimateS.modes = [.io, .bor] := rfl
theorem Fl_laws_markEstimateS : c_laws_markEstimateS.flat = false := rfl
attribute [go_sem] M_laws_markEstimateS Fl_laws_markEstimateS
attribute [go_sem] lk_laws_markEstimateS_33
def E_laws_markEstimateS_l1  : ((List Estimate) × Int × Int) → St
  | (a, k, i) => ⟨[.own 31, .int .i64 k, .any, .int .i64 i], [], [(31, ⟨5, List.map Estimate_av a⟩)], true⟩
def R_laws_markEstimateS_l1  (y : (List Estimate) × Int) : Res := (.exit 0, ⟨[.own 31, .int .i64 y.2, .any, .any], [], [(31, ⟨5, List.map Estimate_av y.1⟩)], true⟩)
theorem laws_markEstimateS_l1_ex  {sgm_ : (List Estimate) × Int × Int} {rho_ : (List Estimate) × Int} (h : whileE (laws_markEstimateS_l1) sgm_ = some rho_) : ∃ L0, ∀ L, L0 ≤ L → iter (exec (look t_laws_markEstimateS) L ir11_b0) ir11_k0 ir11_o0 ir11_r0 L (E_laws_markEstimateS_l1 sgm_) = R_laws_markEstimateS_l1 rho_ := by
  refine loop_ex (E := E_laws_markEstimateS_l1) (R := R_laws_markEstimateS_l1) (fun y => by first | (intro c; cases c) | (rcases y with y | y <;> (intro c; cases c)) | (rcases y with y | y | y <;> (intro c; cases c))) ?_ h
  clear h
  rintro ⟨a, k, i⟩ o_ h
  dsimp only [laws_markEstimateS_l1] at h
  rcases it_some h with ⟨hk1, h⟩ | ⟨hk1, h⟩
  · try simp only [go_sem, n1, n2, n3, n4] at hk1
    all_goals
    obtain ⟨hk2, h⟩ := ck_some h
    have lhk2 := ix_lt hk2
    have xhk2 := getD_mapD Estimate_av a lhk2
    try simp only [go_sem] at lhk2
    try simp only [go_sem] at xhk2
    try simp only [go_sem, n1, n2, n3, n4, hk1] at hk2
    all_goals
    obtain ⟨y_3, hk3, h⟩ := bd_some h
    have fhk3 := Fs_laws_markText hk3
    try simp only [go_sem, hk1, hk2] at fhk3
    obtain ⟨y_4, hk4, h⟩ := bd_some h
    have fhk4 := Fs_laws_markText hk4
    try simp only [go_sem, hk1, hk2] at fhk4
    obtain ⟨hk5, h⟩ := ck_some h
    try simp only [go_sem, n1, n2, n3, n4, hk1, hk2] at hk5
    all_goals
    obtain rfl := so_some h
    refine ⟨0, fun L hL => ?_⟩
    simp only [go_sem, ir11, E_laws_markEstimateS_l1, R_laws_markEstimateS_l1, ir11_b0, ir11_k0, ir11_o0, ir11_r0, hk1, hk2, lhk2, xhk2, fhk3, fhk4, hk5]
  · try simp only [go_sem, n1, n2, n3, n4] at hk1
    all_goals
    obtain rfl := so_some h
    refine ⟨0, fun L hL => ?_⟩
    simp only [go_sem, ir11, E_laws_markEstimateS_l1, R_laws_markEstimateS_l1, ir11_b0, ir11_k0, ir11_o0, ir11_r0, hk1]

theorem Fs_laws_markEstimateS {a : List Estimate} {k : Int} {y_ : Int × (List Estimate)} (h : laws_markEstimateS a k = some y_) : c_laws_markEstimateS.F [.fresh 5 (List.map Estimate_av a), .int .i64 k] = ⟨true, .int .i64 y_.1, [.fresh 5 (List.map Estimate_av y_.2), .any]⟩ := by
  refine mkN_E ?_
  dsimp only [laws_markEstimateS] at h
  obtain ⟨y_6, hk6, h⟩ := bd_some h
  obtain ⟨Lhk6, ehk6⟩ := laws_markEstimateS_l1_ex hk6
  obtain ⟨hk7, h⟩ := ck_some h
  try simp only [go_sem, n1, n2, n3, n4] at hk7
  all_goals
  obtain rfl := so_some h
  refine ⟨Lhk6, fun L hL => ?_⟩
  have ehk6 := ehk6 L (by omega)
  try simp only [go_sem, E_laws_markEstimateS_l1, R_laws_markEstimateS_l1, ir11_k0, ir11_o0, ir11_r0, hk7] at ehk6
  simp only [go_sem, ir11, E_laws_markEstimateS_l1, R_laws_markEstimateS_l1, ir11_k0, ir11_o0, ir11_r0, hk7, ehk6]


def ir12_b0 : IR := .seq (.test false [
    ⟨.push, 6, none, .mov (.v 3)⟩,
    ⟨.push, 7, none, .mov (.v 0)⟩,
    ⟨.push, 8, none, .len false (.s 0)⟩,
    ⟨.push, 9, none, .bin false .lss (.s 2) (.s 0)⟩] (.s 0)
  (.skip)
  (.exit 0))
 (.seq (.block 1 (.seq (.region false [
      ⟨.push, 12, none, .mov (.v 0)⟩,
      ⟨.push, 13, none, .mov (.v 3)⟩,
      ⟨.push, 14, none, .mov (.v 1)⟩,
      ⟨.push, 15, none, .conv .u8 (.s 0)⟩,
      ⟨.push, 16, none, .ixAddr 1 (.s 3) (.s 2)⟩,
      ⟨.no, 0, none, .store 1 (.s 0) (.s 1)⟩])
   (.region false [
     ⟨.push, 17, none, .mov (.v 1)⟩,
     ⟨.push, 18, none, .bin false .add (.s 0) (.c (.int .i64 (1)))⟩,
     ⟨.var 1, 1, none, .mov (.s 0)⟩])))
 (.region false [
   ⟨.push, 10, none, .mov (.v 3)⟩,
   ⟨.push, 11, none, .bin false .add (.s 0) (.c (.int .i64 (1)))⟩,
   ⟨.var 3, 5, none, .mov (.s 0)⟩]))
def ir12_k0 : List Bool := [true, true, false, true]
def ir12_o0 : List Bool := [true, true, false, false]
def ir12_r0 : List Bool := [true, false, true, false]
def ir12_v : List Nat := [0, 1, 4, 5]
def ir12 : AFn := ⟨2, 4, .seq (.region false [
    ⟨.var 2, 4, none, .mov (.c (.int .i64 (0)))⟩])
 (.seq (.seq (.region false [
     ⟨.var 3, 5, none, .mov (.c (.int .i64 (0)))⟩])
  (.block 0 (.loop ir12_k0 ir12_o0 ir12_r0 ir12_b0)))
 (.seq (.region false [
    ⟨.push, 19, none, .mov (.v 1)⟩,
    ⟨.var 2, 4, none, .mov (.s 0)⟩])
 (.ret))), [.t 2]⟩
noncomputable def t_laws_markByteS : List (Nat × Ctr) := []
noncomputable def c_laws_markByteS : Ctr := mkN t_laws_markByteS ir12 [.io, .bor]
theorem s_laws_markByteS : Sound Try.prog 12 c_laws_markByteS := mkN_sound _ snd_nil (by kernel_rfl : chkFn Try.prog 12 ir12 ir12_v = true)
theorem M_laws_markByteS : c_laws_markByteS.modes = [.io, .bor] := rfl
theorem Fl_laws_markByteS : c_laws_markByteS.flat = false := rfl
attribute [go_sem] M_laws_markByteS Fl_laws_markByteS
def E_laws_markByteS_l1  : ((List UInt8) × Int × Int) → St
  | (a, k, i) => ⟨[.own 31, .int .i64 k, .any, .int .i64 i], [], [(31, ⟨1, List.map byteAV a⟩)], true⟩
def R_laws_markByteS_l1  (y : (List UInt8) × Int) : Res := (.exit 0, ⟨[.own 31, .int .i64 y.2, .any, .any], [], [(31, ⟨1, List.map byteAV y.1⟩)], true⟩)
theorem laws_markByteS_l1_ex  {sgm_ : (List UInt8) × Int × Int} {rho_ : (List UInt8) × Int} (h : whileE (laws_markByteS_l1) sgm_ = some rho_) : ∃ L0, ∀ L, L0 ≤ L → iter (exec (look t_laws_markByteS) L ir12_b0) ir12_k0 ir12_o0 ir12_r0 L (E_laws_markByteS_l1 sgm_) = R_laws_markByteS_l1 rho_ := by
  refine loop_ex (E := E_laws_markByteS_l1) (R := R_laws_markByteS_l1) (fun y => by first | (intro c; cases c) | (rcases y with y | y <;> (intro c; cases c)) | (rcases y with y | y | y <;> (intro c; cases c))) ?_ h
  clear h
  rintro ⟨a, k, i⟩ o_ h
  dsimp only [laws_markByteS_l1] at h
  rcases it_some h with ⟨hk1, h⟩ | ⟨hk1, h⟩
  · try simp only [go_sem, n1, n2, n3, n4] at hk1
    all_goals
    obtain ⟨hk2, h⟩ := ck_some h
    have lhk2 := ix_lt hk2
    have xhk2 := getD_mapD byteAV a lhk2
    try simp only [go_sem] at lhk2
    try simp only [go_sem] at xhk2
    try simp only [go_sem, n1, n2, n3, n4, hk1] at hk2
    all_goals
    obtain rfl := so_some h
    refine ⟨0, fun L hL => ?_⟩
    simp only [go_sem, ir12, E_laws_markByteS_l1, R_laws_markByteS_l1, ir12_b0, ir12_k0, ir12_o0, ir12_r0, hk1, hk2, lhk2, xhk2]
  · try simp only [go_sem, n1, n2, n3, n4] at hk1
    all_goals
    obtain rfl := so_some h
    refine ⟨0, fun L hL => ?_⟩
    simp only [go_sem, ir12, E_laws_markByteS_l1, R_laws_markByteS_l1, ir12_b0, ir12_k0, ir12_o0, ir12_r0, hk1]

theorem Fs_laws_markByteS {a : List UInt8} {k : Int} {y_ : Int × (List UInt8)} (h : laws_markByteS a k = some y_) : c_laws_markByteS.F [.fresh 1 (List.map byteAV a), .int .i64 k] = ⟨true, .int .i64 y_.1, [.fresh 1 (List.map byteAV y_.2), .any]⟩ := by
  refine mkN_E ?_
  dsimp only [laws_markByteS] at h
  obtain ⟨y_3, hk3, h⟩ := bd_some h
  obtain ⟨Lhk3, ehk3⟩ := laws_markByteS_l1_ex hk3
  obtain ⟨hk4, h⟩ := ck_some h
  try simp only [go_sem, n1, n2, n3, n4] at hk4
  all_goals
  obtain rfl := so_some h
  refine ⟨Lhk3, fun L hL => ?_⟩
  have ehk3 := ehk3 L (by omega)
  try simp only [go_sem, E_laws_markByteS_l1, R_laws_markByteS_l1, ir12_k0, ir12_o0, ir12_r0, hk4] at ehk3
  simp only [go_sem, ir12, E_laws_markByteS_l1, R_laws_markByteS_l1, ir12_k0, ir12_o0, ir12_r0, hk4, ehk3]


def ir13_b0 : IR := .seq (.test false [
    ⟨.push, 6, none, .mov (.v 3)⟩,
    ⟨.push, 7, none, .mov (.v 0)⟩,
    ⟨.push, 8, none, .len false (.s 0)⟩,
    ⟨.push, 9, none, .bin false .lss (.s 2) (.s 0)⟩] (.s 0)
  (.skip)
  (.exit 0))
 (.seq (.block 1 (.seq (.test false [
      ⟨.push, 12, none, .mov (.v 0)⟩,
      ⟨.push, 13, none, .mov (.v 3)⟩,
      ⟨.push, 14, none, .ixAddr 1 (.s 1) (.s 0)⟩,
      ⟨.push, 15, none, .load false 1 (.s 0)⟩,
      ⟨.push, 16, none, .mov (.v 1)⟩,
      ⟨.push, 17, none, .conv .u8 (.s 0)⟩,
      ⟨.push, 18, none, .bin false .neq (.s 2) (.s 0)⟩] (.s 0)
    (.seq (.region false [
        ⟨.var 2, 4, none, .mov (.c (.int .i64 (-1)))⟩])
     (.ret))
    (.skip))
   (.region false [
     ⟨.push, 19, none, .mov (.v 1)⟩,
     ⟨.push, 20, none, .bin false .add (.s 0) (.c (.int .i64 (1)))⟩,
     ⟨.var 1, 1, none, .mov (.s 0)⟩])))
 (.region false [
   ⟨.push, 10, none, .mov (.v 3)⟩,
   ⟨.push, 11, none, .bin false .add (.s 0) (.c (.int .i64 (1)))⟩,
   ⟨.var 3, 5, none, .mov (.s 0)⟩]))
def ir13_k0 : List Bool := [true, true, false, true]
def ir13_o0 : List Bool := [false, true, false, false]
def ir13_r0 : List Bool := [false, false, true, false]
def ir13_v : List Nat := [0, 1, 4, 5]
def ir13 : AFn := ⟨2, 4, .seq (.region false [
    ⟨.var 2, 4, none, .mov (.c (.int .i64 (0)))⟩])
 (.seq (.seq (.region false [
     ⟨.var 3, 5, none, .mov (.c (.int .i64 (0)))⟩])
  (.block 0 (.loop ir13_k0 ir13_o0 ir13_r0 ir13_b0)))
 (.seq (.region false [
    ⟨.push, 21, none, .mov (.v 1)⟩,
    ⟨.var 2, 4, none, .mov (.s 0)⟩])
 (.ret))), [.t 2]⟩
noncomputable def t_laws_heldByteS : List (Nat × Ctr) := []
noncomputable def c_laws_heldByteS : Ctr := mkF t_laws_heldByteS ir13 [.bor, .bor]
theorem s_laws_heldByteS : Sound Try.prog 13 c_laws_heldByteS := mkF_sound _ rfl snd_nil (by kernel_rfl : chkFn Try.prog 13 ir13 ir13_v = true)
theorem M_laws_heldByteS : c_laws_heldByteS.modes = [.bor, .bor] := rfl
theorem Fl_laws_heldByteS : c_laws_heldByteS.flat = true := rfl
attribute [go_sem] M_laws_heldByteS Fl_laws_heldByteS
def E_laws_heldByteS_l1 (a : List UInt8) : (Int × Int) → St
  | (k, i) => ⟨[.sl 1 (List.map byteAV a), .int .i64 k, .any, .int .i64 i], [], [], true⟩
def R_laws_heldByteS_l1 (a : List UInt8) : (Int ⊕ Int) → Res
  | .inl y => (.exit 0, ⟨[.any, .int .i64 y, .any, .any], [], [], true⟩)
  | .inr y => (.ret, ⟨[.any, .any, .int .i64 y, .any], [], [], true⟩)
theorem laws_heldByteS_l1_ex {a : List UInt8} {sgm_ : Int × Int} {rho_ : Int ⊕ Int} (h : whileE (laws_heldByteS_l1 a) sgm_ = some rho_) : ∃ L0, ∀ L, L0 ≤ L → iter (exec (look t_laws_heldByteS) L ir13_b0) ir13_k0 ir13_o0 ir13_r0 L (E_laws_heldByteS_l1 a sgm_) = R_laws_heldByteS_l1 a rho_ := by
  refine loop_ex (E := E_laws_heldByteS_l1 a) (R := R_laws_heldByteS_l1 a) (fun y => by first | (intro c; cases c) | (rcases y with y | y <;> (intro c; cases c)) | (rcases y with y | y | y <;> (intro c; cases c))) ?_ h
  clear h
  rintro ⟨k, i⟩ o_ h
  dsimp only [laws_heldByteS_l1] at h
  rcases it_some h with ⟨hk1, h⟩ | ⟨hk1, h⟩
  · try simp only [go_sem, n1, n2, n3, n4] at hk1
    all_goals
    obtain ⟨hk2, h⟩ := ck_some h
    have lhk2 := ix_lt hk2
    have xhk2 := getD_mapD byteAV a lhk2
    try simp only [go_sem] at lhk2
    try simp only [go_sem] at xhk2
    try simp only [go_sem, n1, n2, n3, n4, hk1] at hk2
    all_goals
    rcases it_some h with ⟨hk3, h⟩ | ⟨hk3, h⟩
    · try simp only [go_sem, n1, n2, n3, n4, hk1, hk2] at hk3
      all_goals
      obtain rfl := so_some h
      refine ⟨0, fun L hL => ?_⟩
      simp only [go_sem, ir13, E_laws_heldByteS_l1, R_laws_heldByteS_l1, ir13_b0, ir13_k0, ir13_o0, ir13_r0, hk1, hk2, lhk2, xhk2, hk3]
    · try simp only [go_sem, n1, n2, n3, n4, hk1, hk2] at hk3
      all_goals
      obtain rfl := so_some h
      refine ⟨0, fun L hL => ?_⟩
      simp only [go_sem, ir13, E_laws_heldByteS_l1, R_laws_heldByteS_l1, ir13_b0, ir13_k0, ir13_o0, ir13_r0, hk1, hk2, lhk2, xhk2, hk3]
  · try simp only [go_sem, n1, n2, n3, n4] at hk1
    all_goals
    obtain rfl := so_some h
    refine ⟨0, fun L hL => ?_⟩
    simp only [go_sem, ir13, E_laws_heldByteS_l1, R_laws_heldByteS_l1, ir13_b0, ir13_k0, ir13_o0, ir13_r0, hk1]

theorem Fs_laws_heldByteS {a : List UInt8} {k : Int} {y_ : Int} (h : laws_heldByteS a k = some y_) : c_laws_heldByteS.F [.sl 1 (List.map byteAV a), .int .i64 k] = ⟨true, .int .i64 y_, [.any, .any]⟩ := by
  refine mkF_E rfl ?_
  dsimp only [laws_heldByteS] at h
  obtain ⟨y_4, hk4, h⟩ := bd_some h
  obtain ⟨Lhk4, ehk4⟩ := laws_heldByteS_l1_ex hk4
  rcases y_4 with y_4a | y_4b
  · dsimp only at h
    obtain rfl := so_some h
    refine ⟨Lhk4, fun L hL => ?_⟩
    have ehk4 := ehk4 L (by omega)
    try simp only [go_sem, E_laws_heldByteS_l1, R_laws_heldByteS_l1, ir13_k0, ir13_o0, ir13_r0] at ehk4
    simp only [go_sem, ir13, E_laws_heldByteS_l1, R_laws_heldByteS_l1, ir13_k0, ir13_o0, ir13_r0, ehk4]
  · dsimp only at h
    obtain rfl := so_some h
    refine ⟨Lhk4, fun L hL => ?_⟩
    have ehk4 := ehk4 L (by omega)
    try simp only [go_sem, E_laws_heldByteS_l1, R_laws_heldByteS_l1, ir13_k0, ir13_o0, ir13_r0] at ehk4
    simp only [go_sem, ir13, E_laws_heldByteS_l1, R_laws_heldByteS_l1, ir13_k0, ir13_o0, ir13_r0, ehk4]


def ir3_v : List Nat := [0, 2, 3, 4, 5, 6, 7, 8, 9, 10, 11, 12, 13]
def ir3 : AFn := ⟨1, 13, .seq (.region false [
    ⟨.var 1, 2, none, .mov (.c (.bool false))⟩])
 (.seq (.region false [
    ⟨.var 2, 3, none, .mov (.c (.int .i64 (1048576)))⟩])
 (.seq (.region false [
    ⟨.push, 14, none, .mov (.v 0)⟩,
    ⟨.push, 15, none, .mov (.v 2)⟩,
    ⟨.push, 16, none, .call 5 [(.s 1), (.s 0)]⟩,
    ⟨.var 2, 3, none, .mov (.s 0)⟩])
 (.seq (.test false [
    ⟨.push, 17, none, .mov (.v 2)⟩,
    ⟨.push, 18, none, .bin false .lss (.s 0) (.c (.int .i64 (0)))⟩] (.s 0)
  (.seq (.region false [
      ⟨.var 1, 2, none, .mov (.c (.bool true))⟩])
   (.ret))
  (.skip))
 (.seq (.region false [
    ⟨.push, 20, none, .mov (.v 0)⟩,
    ⟨.push, 21, none, .call 7 [(.s 0)]⟩,
    ⟨.push, 22, none, .call 6 [(.s 0)]⟩,
    ⟨.push, 19, none, .mov (.s 0)⟩,
    ⟨.push, 23, none, .ext (.s 0) 0⟩,
    ⟨.push, 24, none, .ext (.s 1) 1⟩,
    ⟨.var 3, 4, none, .mov (.s 1)⟩,
    ⟨.var 4, 5, none, .mov (.s 0)⟩])
 (.seq (.region false [
    ⟨.push, 25, none, .mov (.v 0)⟩,
    ⟨.push, 26, none, .call 7 [(.s 0)]⟩,
    ⟨.var 5, 6, none, .mov (.s 0)⟩])
 (.seq (.region false [
    ⟨.push, 28, none, .mov (.v 5)⟩,
    ⟨.push, 29, none, .call 8 [(.s 0)]⟩,
    ⟨.push, 27, none, .mov (.s 0)⟩,
    ⟨.push, 30, none, .ext (.s 0) 0⟩,
    ⟨.push, 31, none, .ext (.s 1) 1⟩,
    ⟨.var 6, 7, none, .mov (.s 1)⟩,
    ⟨.var 7, 8, none, .mov (.s 0)⟩])
 (.seq (.test false [
    ⟨.push, 32, none, .mov (.v 6)⟩,
    ⟨.push, 33, none, .mov (.v 3)⟩,
    ⟨.push, 34, none, .call 9 [(.s 1), (.s 0)]⟩,
    ⟨.push, 35, none, .un .not (.s 0)⟩,
    ⟨.push, 36, none, .mov (.s 0)⟩,
    ⟨.push, 37, (some ((.s 0), false)), .mov (.v 7)⟩,
    ⟨.push, 38, (some ((.s 1), false)), .mov (.v 4)⟩,
    ⟨.push, 39, (some ((.s 2), false)), .bin false .neq (.s 1) (.s 0)⟩,
    ⟨.push, 40, none, .pick (.s 3) (.c (.bool true)) (.s 0)⟩] (.s 0)
  (.seq (.region false [
      ⟨.var 1, 2, none, .mov (.c (.bool false))⟩])
   (.ret))
  (.skip))
 (.seq (.test false [
    ⟨.push, 41, none, .mov (.v 5)⟩,
    ⟨.push, 42, none, .mov (.v 0)⟩,
    ⟨.push, 43, none, .call 7 [(.s 0)]⟩,
    ⟨.push, 44, none, .call 10 [(.s 2), (.s 0)]⟩,
    ⟨.push, 45, none, .un .not (.s 0)⟩] (.s 0)
  (.seq (.region false [
      ⟨.var 1, 2, none, .mov (.c (.bool false))⟩])
   (.ret))
  (.skip))
 (.seq (.region false [
    ⟨.var 8, 9, none, .mov (.c (.int .i64 (1)))⟩])
 (.seq (.region false [
    ⟨.push, 46, none, .mov (.v 5)⟩,
    ⟨.push, 47, none, .mov (.v 8)⟩,
    ⟨.push, 48, none, .call 11 [(.s 1), (.s 0)]⟩,
    ⟨.var 8, 9, none, .mov (.s 0)⟩])
 (.seq (.test false [
    ⟨.push, 49, none, .mov (.v 8)⟩,
    ⟨.push, 50, none, .bin false .lss (.s 0) (.c (.int .i64 (0)))⟩,
    ⟨.push, 51, none, .mov (.s 0)⟩,
    ⟨.push, 52, (some ((.s 0), false)), .mov (.v 6)⟩,
    ⟨.push, 53, (some ((.s 1), false)), .mov (.v 3)⟩,
    ⟨.push, 54, (some ((.s 2), false)), .call 9 [(.s 1), (.s 0)]⟩,
    ⟨.push, 55, (some ((.s 3), false)), .un .not (.s 0)⟩,
    ⟨.push, 56, none, .pick (.s 4) (.c (.bool true)) (.s 0)⟩,
    ⟨.push, 57, none, .mov (.s 0)⟩,
    ⟨.push, 58, (some ((.s 0), false)), .mov (.v 7)⟩,
    ⟨.push, 59, (some ((.s 1), false)), .mov (.v 4)⟩,
    ⟨.push, 60, (some ((.s 2), false)), .bin false .neq (.s 1) (.s 0)⟩,
    ⟨.push, 61, none, .pick (.s 3) (.c (.bool true)) (.s 0)⟩] (.s 0)
  (.seq (.region false [
      ⟨.var 1, 2, none, .mov (.c (.bool false))⟩])
   (.ret))
  (.skip))
 (.seq (.region false [
    ⟨.var 9, 10, none, .mov (.c (.int .i64 (1)))⟩])
 (.seq (.region false [
    ⟨.push, 62, none, .mov (.v 6)⟩,
    ⟨.push, 63, none, .mov (.v 9)⟩,
    ⟨.push, 64, none, .call 12 [(.s 1), (.s 0)]⟩,
    ⟨.var 9, 10, none, .mov (.s 0)⟩])
 (.seq (.region false [
    ⟨.var 10, 11, none, .mov (.c (.int .i64 (1)))⟩])
 (.seq (.region false [
    ⟨.push, 65, none, .mov (.v 6)⟩,
    ⟨.push, 66, none, .mov (.v 10)⟩,
    ⟨.push, 67, none, .call 13 [(.s 1), (.s 0)]⟩,
    ⟨.var 10, 11, none, .mov (.s 0)⟩])
 (.seq (.test false [
    ⟨.push, 68, none, .mov (.v 10)⟩,
    ⟨.push, 69, none, .bin false .lss (.s 0) (.c (.int .i64 (0)))⟩] (.s 0)
  (.seq (.region false [
      ⟨.var 1, 2, none, .mov (.c (.bool false))⟩])
   (.ret))
  (.skip))
 (.seq (.test false [
    ⟨.push, 70, none, .mov (.v 10)⟩,
    ⟨.push, 71, none, .mov (.v 9)⟩,
    ⟨.push, 72, none, .bin false .neq (.s 1) (.s 0)⟩] (.s 0)
  (.seq (.region false [
      ⟨.var 1, 2, none, .mov (.c (.bool false))⟩])
   (.ret))
  (.skip))
 (.seq (.region false [
    ⟨.push, 74, none, .mov (.v 0)⟩,
    ⟨.push, 75, none, .call 7 [(.s 0)]⟩,
    ⟨.push, 76, none, .call 8 [(.s 0)]⟩,
    ⟨.push, 73, none, .mov (.s 0)⟩,
    ⟨.push, 77, none, .ext (.s 0) 0⟩,
    ⟨.push, 78, none, .ext (.s 1) 1⟩,
    ⟨.var 11, 12, none, .mov (.s 1)⟩,
    ⟨.var 12, 13, none, .mov (.s 0)⟩])
 (.seq (.test false [
    ⟨.push, 79, none, .mov (.v 11)⟩,
    ⟨.push, 80, none, .mov (.v 3)⟩,
    ⟨.push, 81, none, .call 9 [(.s 1), (.s 0)]⟩,
    ⟨.push, 82, none, .un .not (.s 0)⟩,
    ⟨.push, 83, none, .mov (.s 0)⟩,
    ⟨.push, 84, (some ((.s 0), false)), .mov (.v 12)⟩,
    ⟨.push, 85, (some ((.s 1), false)), .mov (.v 4)⟩,
    ⟨.push, 86, (some ((.s 2), false)), .bin false .neq (.s 1) (.s 0)⟩,
    ⟨.push, 87, none, .pick (.s 3) (.c (.bool true)) (.s 0)⟩] (.s 0)
  (.seq (.region false [
      ⟨.var 1, 2, none, .mov (.c (.bool false))⟩])
   (.ret))
  (.skip))
 (.seq (.region false [
    ⟨.var 10, 11, none, .mov (.c (.int .i64 (1)))⟩])
 (.seq (.region false [
    ⟨.push, 88, none, .mov (.v 6)⟩,
    ⟨.push, 89, none, .mov (.v 10)⟩,
    ⟨.push, 90, none, .call 13 [(.s 1), (.s 0)]⟩,
    ⟨.var 10, 11, none, .mov (.s 0)⟩])
 (.seq (.test false [
    ⟨.push, 91, none, .mov (.v 10)⟩,
    ⟨.push, 92, none, .bin false .lss (.s 0) (.c (.int .i64 (0)))⟩] (.s 0)
  (.seq (.region false [
      ⟨.var 1, 2, none, .mov (.c (.bool false))⟩])
   (.ret))
  (.skip))
 (.seq (.test false [
    ⟨.push, 93, none, .mov (.v 10)⟩,
    ⟨.push, 94, none, .mov (.v 9)⟩,
    ⟨.push, 95, none, .bin false .neq (.s 1) (.s 0)⟩] (.s 0)
  (.seq (.region false [
      ⟨.var 1, 2, none, .mov (.c (.bool false))⟩])
   (.ret))
  (.skip))
 (.seq (.region false [
    ⟨.var 1, 2, none, .mov (.c (.bool true))⟩])
 (.ret))))))))))))))))))))))))), [.t 1]⟩
noncomputable def t_laws_FnExactPackEstimates : List (Nat × Ctr) := [(5, c_laws_szEstimateS), (7, c_laws_toEstimateS), (6, c_spec_PackEstimates), (8, c_impl_PackEstimates), (9, c_laws_eqByteS), (10, c_laws_eqEstimateS), (11, c_laws_markEstimateS), (12, c_laws_markByteS), (13, c_laws_heldByteS)]
theorem lk_laws_FnExactPackEstimates_5 : look t_laws_FnExactPackEstimates 5 = some c_laws_szEstimateS := rfl
theorem lk_laws_FnExactPackEstimates_7 : look t_laws_FnExactPackEstimates 7 = some c_laws_toEstimateS := rfl
theorem lk_laws_FnExactPackEstimates_6 : look t_laws_FnExactPackEstimates 6 = some c_spec_PackEstimates := rfl
theorem lk_laws_FnExactPackEstimates_8 : look t_laws_FnExactPackEstimates 8 = some c_impl_PackEstimates := rfl
theorem lk_laws_FnExactPackEstimates_9 : look t_laws_FnExactPackEstimates 9 = some c_laws_eqByteS := rfl
theorem lk_laws_FnExactPackEstimates_10 : look t_laws_FnExactPackEstimates 10 = some c_laws_eqEstimateS := rfl
theorem lk_laws_FnExactPackEstimates_11 : look t_laws_FnExactPackEstimates 11 = some c_laws_markEstimateS := rfl
theorem lk_laws_FnExactPackEstimates_12 : look t_laws_FnExactPackEstimates 12 = some c_laws_markByteS := rfl
theorem lk_laws_FnExactPackEstimates_13 : look t_laws_FnExactPackEstimates 13 = some c_laws_heldByteS := rfl
noncomputable def c_laws_FnExactPackEstimates : Ctr := mkF t_laws_FnExactPackEstimates ir3 [.bor]
theorem s_laws_FnExactPackEstimates : Sound Try.prog 3 c_laws_FnExactPackEstimates := mkF_sound _ rfl (snd_cons s_laws_szEstimateS (snd_cons s_laws_toEstimateS (snd_cons s_spec_PackEstimates (snd_cons s_impl_PackEstimates (snd_cons s_laws_eqByteS (snd_cons s_laws_eqEstimateS (snd_cons s_laws_markEstimateS (snd_cons s_laws_markByteS (snd_cons s_laws_heldByteS snd_nil))))))))) (by kernel_rfl : chkFn Try.prog 3 ir3 ir3_v = true)
theorem M_laws_FnExactPackEstimates : c_laws_FnExactPackEstimates.modes = [.bor] := rfl
theorem Fl_laws_FnExactPackEstimates : c_laws_FnExactPackEstimates.flat = true := rfl
attribute [go_sem] M_laws_FnExactPackEstimates Fl_laws_FnExactPackEstimates
attribute [go_sem] lk_laws_FnExactPackEstimates_5 lk_laws_FnExactPackEstimates_7 lk_laws_FnExactPackEstimates_6 lk_laws_FnExactPackEstimates_8 lk_laws_FnExactPackEstimates_9 lk_laws_FnExactPackEstimates_10 lk_laws_FnExactPackEstimates_11 lk_laws_FnExactPackEstimates_12 lk_laws_FnExactPackEstimates_13
theorem Fs_laws_FnExactPackEstimates {aList : List Estimate} {y_ : Bool} (h : laws_FnExactPackEstimates aList = some y_) : c_laws_FnExactPackEstimates.F [.sl 5 (List.map Estimate_av aList)] = ⟨true, .bool y_, [.any]⟩ := by
  refine mkF_E rfl ?_
  dsimp only [laws_FnExactPackEstimates] at h
  obtain ⟨y_1, hk1, h⟩ := bd_some h
  have fhk1 := Fs_laws_szEstimateS hk1
  try simp only [go_sem] at fhk1
  rcases it_some h with ⟨hk2, h⟩ | ⟨hk2, h⟩
  · try simp only [go_sem, n1, n2, n3, n4] at hk2
    all_goals
    obtain rfl := so_some h
    refine ⟨0, fun L hL => ?_⟩
    simp only [go_sem, ir3, fhk1, hk2]
  · try simp only [go_sem, n1, n2, n3, n4] at hk2
    all_goals
    obtain ⟨y_3, hk3, h⟩ := bd_some h
    have fhk3 := Fs_laws_toEstimateS hk3
    try simp only [go_sem, hk2] at fhk3
    obtain ⟨y_4, hk4, h⟩ := bd_some h
    have fhk4 := Fs_spec_PackEstimates hk4
    try simp only [go_sem, hk2] at fhk4
    obtain ⟨y_5, hk5, h⟩ := bd_some h
    have fhk5 := Fs_impl_PackEstimates hk5
    try simp only [go_sem, hk2] at fhk5
    obtain ⟨y_6, hk6, h⟩ := bd_some h
    have fhk6 := Fs_laws_eqByteS hk6
    try simp only [go_sem, hk2] at fhk6
    rcases it_some h with ⟨hk7, h⟩ | ⟨hk7, h⟩
    · try simp only [go_sem, n1, n2, n3, n4, hk2] at hk7
      all_goals
      obtain rfl := so_some h
      refine ⟨0, fun L hL => ?_⟩
      simp only [go_sem, ir3, fhk1, hk2, fhk3, fhk4, fhk5, fhk6, hk7]
    · try simp only [go_sem, n1, n2, n3, n4, hk2] at hk7
      all_goals
      obtain ⟨y_8, hk8, h⟩ := bd_some h
      have fhk8 := Fs_laws_eqEstimateS hk8
      try simp only [go_sem, hk2, hk7] at fhk8
      rcases it_some h with ⟨hk9, h⟩ | ⟨hk9, h⟩
      · try simp only [go_sem, n1, n2, n3, n4, hk2, hk7] at hk9
        all_goals
        obtain rfl := so_some h
        refine ⟨0, fun L hL => ?_⟩
        simp only [go_sem, ir3, fhk1, hk2, fhk3, fhk4, fhk5, fhk6, hk7, fhk8, hk9]
      · try simp only [go_sem, n1, n2, n3, n4, hk2, hk7] at hk9
        all_goals
        obtain ⟨y_10, hk10, h⟩ := bd_some h
        have fhk10 := Fs_laws_markEstimateS hk10
        try simp only [go_sem, hk2, hk7, hk9] at fhk10
        rcases it_some h with ⟨hk12, h⟩ | ⟨hk12, h⟩
        · try simp only [go_sem, n1, n2, n3, n4, hk2, hk7, hk9] at hk12
          all_goals
          obtain rfl := so_some h
          refine ⟨0, fun L hL => ?_⟩
          simp only [go_sem, ir3, fhk1, hk2, fhk3, fhk4, fhk5, fhk6, hk7, fhk8, hk9, fhk10, hk12]
        · try simp only [go_sem, n1, n2, n3, n4, hk2, hk7, hk9] at hk12
          all_goals
          obtain ⟨y_13, hk13, h⟩ := bd_some h
          have fhk13 := Fs_laws_markByteS hk13
          try simp only [go_sem, hk2, hk7, hk9, hk12] at fhk13
          obtain ⟨y_14, hk14, h⟩ := bd_some h
          have fhk14 := Fs_laws_heldByteS hk14
          try simp only [go_sem, hk2, hk7, hk9, hk12] at fhk14
          rcases it_some h with ⟨hk15, h⟩ | ⟨hk15, h⟩
          · try simp only [go_sem, n1, n2, n3, n4, hk2, hk7, hk9, hk12] at hk15
            all_goals
            obtain rfl := so_some h
            refine ⟨0, fun L hL => ?_⟩
            simp only [go_sem, ir3, fhk1, hk2, fhk3, fhk4, fhk5, fhk6, hk7, fhk8, hk9, fhk10, hk12, fhk13, fhk14, hk15]
          · try simp only [go_sem, n1, n2, n3, n4, hk2, hk7, hk9, hk12] at hk15
            all_goals
            rcases it_some h with ⟨hk16, h⟩ | ⟨hk16, h⟩
            · try simp only [go_sem, n1, n2, n3, n4, hk2, hk7, hk9, hk12, hk15] at hk16
              all_goals
              obtain rfl := so_some h
              refine ⟨0, fun L hL => ?_⟩
              simp only [go_sem, ir3, fhk1, hk2, fhk3, fhk4, fhk5, fhk6, hk7, fhk8, hk9, fhk10, hk12, fhk13, fhk14, hk15, hk16]
            · try simp only [go_sem, n1, n2, n3, n4, hk2, hk7, hk9, hk12, hk15] at hk16
              all_goals
              obtain rfl := so_some h
              refine ⟨0, fun L hL => ?_⟩
              simp only [go_sem, ir3, fhk1, hk2, fhk3, fhk4, fhk5, fhk6, hk7, fhk8, hk9, fhk10, hk12, fhk13, fhk14, hk15, hk16]


end Go.Proofs.Ytgbopjgnggdhkaa
