/- Codes and contracts of the functions that D4 reaches, and that their typed forms say what they do. No condition. -/
import Derived.Test.YtndkifgpbmaicaaR4T
import Derived.Test.YtndkifgpbmaicaaRows
import Derived.WalkKit
namespace Go.Proofs.Ytndkifgpbmaicaa
open Go Go.RowKit
set_option linter.unusedVariables false
set_option linter.unusedSimpArgs false
set_option maxRecDepth 10000

def ir52_v : List Nat := [0, 2]
def ir52 : AFn := ⟨1, 2, .seq (.region false [
    ⟨.var 1, 2, none, .mov (.c (.bool false))⟩])
 (.seq (.region false [
    ⟨.push, 3, none, .mov (.v 0)⟩,
    ⟨.push, 4, none, .bin false .geq (.s 0) (.c (.int .u8 (48)))⟩,
    ⟨.push, 5, none, .mov (.s 0)⟩,
    ⟨.push, 6, (some ((.s 0), true)), .mov (.v 0)⟩,
    ⟨.push, 7, (some ((.s 1), true)), .bin false .leq (.s 0) (.c (.int .u8 (57)))⟩,
    ⟨.push, 8, none, .pick (.s 2) (.s 0) (.c (.bool false))⟩,
    ⟨.var 1, 2, none, .mov (.s 0)⟩])
 (.ret)), [.t 1]⟩
noncomputable def t_spec_l01Digit : List (Nat × Ctr) := []
noncomputable def c_spec_l01Digit : Ctr := mkF t_spec_l01Digit ir52 [.bor]
theorem s_spec_l01Digit : Sound Try.prog 52 c_spec_l01Digit := mkF_sound _ rfl snd_nil (by kernel_rfl : chkFn Try.prog 52 ir52 ir52_v = true)
theorem M_spec_l01Digit : c_spec_l01Digit.modes = [.bor] := rfl
theorem Fl_spec_l01Digit : c_spec_l01Digit.flat = true := rfl
attribute [go_sem] M_spec_l01Digit Fl_spec_l01Digit
theorem Fs_spec_l01Digit {c : UInt8} {y_ : Bool} (h : spec_l01Digit c = some y_) : c_spec_l01Digit.F [.int .u8 (c.toNat : Int)] = ⟨true, .bool y_, [.any]⟩ := by
  refine mkF_E rfl ?_
  dsimp only [spec_l01Digit] at h
  obtain rfl := so_some h
  refine ⟨0, fun L hL => ?_⟩
  simp only [go_sem, ir52]


def ir29_v : List Nat := [0, 2]
def ir29 : AFn := ⟨1, 2, .seq (.region false [
    ⟨.var 1, 2, none, .mov (.c (.int .i64 (0)))⟩])
 (.seq (.test false [
    ⟨.push, 3, none, .mov (.v 0)⟩,
    ⟨.push, 4, none, .call 52 [(.s 0)]⟩] (.s 0)
  (.seq (.region false [
      ⟨.push, 5, none, .mov (.v 0)⟩,
      ⟨.push, 6, none, .bin false .sub (.s 0) (.c (.int .u8 (48)))⟩,
      ⟨.push, 7, none, .conv .i64 (.s 0)⟩,
      ⟨.var 1, 2, none, .mov (.s 0)⟩])
   (.ret))
  (.skip))
 (.seq (.test false [
    ⟨.push, 8, none, .mov (.v 0)⟩,
    ⟨.push, 9, none, .bin false .geq (.s 0) (.c (.int .u8 (97)))⟩,
    ⟨.push, 10, none, .mov (.s 0)⟩,
    ⟨.push, 11, (some ((.s 0), true)), .mov (.v 0)⟩,
    ⟨.push, 12, (some ((.s 1), true)), .bin false .leq (.s 0) (.c (.int .u8 (102)))⟩,
    ⟨.push, 13, none, .pick (.s 2) (.s 0) (.c (.bool false))⟩] (.s 0)
  (.seq (.region false [
      ⟨.push, 14, none, .mov (.v 0)⟩,
      ⟨.push, 15, none, .bin false .sub (.s 0) (.c (.int .u8 (97)))⟩,
      ⟨.push, 16, none, .conv .i64 (.s 0)⟩,
      ⟨.push, 17, none, .bin false .add (.s 0) (.c (.int .i64 (10)))⟩,
      ⟨.var 1, 2, none, .mov (.s 0)⟩])
   (.ret))
  (.skip))
 (.seq (.region false [
    ⟨.var 1, 2, none, .mov (.c (.int .i64 (-1)))⟩])
 (.ret)))), [.t 1]⟩
noncomputable def t_spec_l25Digit : List (Nat × Ctr) := [(52, c_spec_l01Digit)]
theorem lk_spec_l25Digit_52 : look t_spec_l25Digit 52 = some c_spec_l01Digit := rfl
noncomputable def c_spec_l25Digit : Ctr := mkF t_spec_l25Digit ir29 [.bor]
theorem s_spec_l25Digit : Sound Try.prog 29 c_spec_l25Digit := mkF_sound _ rfl (snd_cons s_spec_l01Digit snd_nil) (by kernel_rfl : chkFn Try.prog 29 ir29 ir29_v = true)
theorem M_spec_l25Digit : c_spec_l25Digit.modes = [.bor] := rfl
theorem Fl_spec_l25Digit : c_spec_l25Digit.flat = true := rfl
attribute [go_sem] M_spec_l25Digit Fl_spec_l25Digit
attribute [go_sem] lk_spec_l25Digit_52
theorem Fs_spec_l25Digit {c : UInt8} {y_ : Int} (h : spec_l25Digit c = some y_) : c_spec_l25Digit.F [.int .u8 (c.toNat : Int)] = ⟨true, .int .i64 y_, [.any]⟩ := by
  refine mkF_E rfl ?_
  dsimp only [spec_l25Digit] at h
  obtain ⟨y_1, hk1, h⟩ := bd_some h
  have fhk1 := Fs_spec_l01Digit hk1
  try simp only [go_sem] at fhk1
  rcases it_some h with ⟨hk2, h⟩ | ⟨hk2, h⟩
  · try simp only [go_sem, n1, n2, n3, n4] at hk2
    all_goals
    obtain rfl := so_some h
    refine ⟨0, fun L hL => ?_⟩
    simp only [go_sem, ir29, fhk1, hk2]
  · try simp only [go_sem, n1, n2, n3, n4] at hk2
    all_goals
    rcases it_some h with ⟨hk3, h⟩ | ⟨hk3, h⟩
    · try simp only [go_sem, n1, n2, n3, n4, hk2] at hk3
      all_goals
      obtain rfl := so_some h
      refine ⟨0, fun L hL => ?_⟩
      simp only [go_sem, ir29, fhk1, hk2, hk3]
    · try simp only [go_sem, n1, n2, n3, n4, hk2] at hk3
      all_goals
      obtain rfl := so_some h
      refine ⟨0, fun L hL => ?_⟩
      simp only [go_sem, ir29, fhk1, hk2, hk3]


def ir11_b0 : IR := .seq (.test false [
    ⟨.push, 18, none, .mov (.v 4)⟩,
    ⟨.push, 19, none, .mov (.v 0)⟩,
    ⟨.push, 20, none, .len true (.s 0)⟩,
    ⟨.push, 21, none, .bin false .lss (.s 2) (.s 0)⟩] (.s 0)
  (.skip)
  (.exit 0))
 (.seq (.block 1 (.seq (.region false [
      ⟨.push, 24, none, .mov (.v 0)⟩,
      ⟨.push, 25, none, .mov (.v 4)⟩,
      ⟨.push, 26, none, .ixStr (.s 1) (.s 0)⟩,
      ⟨.push, 27, none, .call 29 [(.s 0)]⟩,
      ⟨.var 5, 6, none, .mov (.s 0)⟩])
   (.seq (.region false [
      ⟨.push, 28, none, .mov (.v 0)⟩,
      ⟨.push, 29, none, .mov (.v 4)⟩,
      ⟨.push, 30, none, .bin false .add (.s 0) (.c (.int .i64 (1)))⟩,
      ⟨.push, 31, none, .ixStr (.s 2) (.s 0)⟩,
      ⟨.push, 32, none, .call 29 [(.s 0)]⟩,
      ⟨.var 6, 7, none, .mov (.s 0)⟩])
   (.seq (.test false [
      ⟨.push, 33, none, .mov (.v 5)⟩,
      ⟨.push, 34, none, .bin false .lss (.s 0) (.c (.int .i64 (0)))⟩,
      ⟨.push, 35, none, .mov (.s 0)⟩,
      ⟨.push, 36, (some ((.s 0), false)), .mov (.v 6)⟩,
      ⟨.push, 37, (some ((.s 1), false)), .bin false .lss (.s 0) (.c (.int .i64 (0)))⟩,
      ⟨.push, 38, none, .pick (.s 2) (.c (.bool true)) (.s 0)⟩] (.s 0)
    (.seq (.region false [
        ⟨.var 1, 2, none, .newnil 1⟩,
        ⟨.var 2, 3, none, .mov (.c (.bool false))⟩])
     (.ret))
    (.skip))
   (.region false [
     ⟨.push, 39, none, .mov (.v 3)⟩,
     ⟨.push, 40, none, .mov (.v 5)⟩,
     ⟨.push, 41, none, .bin false .mul (.c (.int .i64 (16))) (.s 0)⟩,
     ⟨.push, 42, none, .mov (.v 6)⟩,
     ⟨.push, 43, none, .bin false .add (.s 1) (.s 0)⟩,
     ⟨.push, 44, none, .conv .u8 (.s 0)⟩,
     ⟨.push, 45, none, .mkSl 1 (.int .u8 (0)) 1 [(0, (.s 0))]⟩,
     ⟨.push, 46, none, .app 1 1 (.int .u8 (0)) (.s 6) (.s 0)⟩,
     ⟨.var 3, 4, none, .mov (.s 0)⟩])))))
 (.region false [
   ⟨.push, 22, none, .mov (.v 4)⟩,
   ⟨.push, 23, none, .bin false .add (.s 0) (.c (.int .i64 (2)))⟩,
   ⟨.var 4, 5, none, .mov (.s 0)⟩]))
def ir11_k0 : List Bool := [true, false, false, true, true, false, false]
def ir11_o0 : List Bool := [false, false, false, true, false, false, false]
def ir11_r0 : List Bool := [false, true, true, false, false, false, false]
def ir11_v : List Nat := [0, 2, 3, 4, 5, 6, 7]
def ir11 : AFn := ⟨1, 7, .seq (.region false [
    ⟨.var 1, 2, none, .newnil 1⟩,
    ⟨.var 2, 3, none, .mov (.c (.bool false))⟩])
 (.seq (.test false [
    ⟨.push, 8, none, .mov (.v 0)⟩,
    ⟨.push, 9, none, .len true (.s 0)⟩,
    ⟨.push, 10, none, .bin false .rem (.s 0) (.c (.int .i64 (2)))⟩,
    ⟨.push, 11, none, .bin false .neq (.s 0) (.c (.int .i64 (0)))⟩,
    ⟨.push, 12, none, .mov (.s 0)⟩,
    ⟨.push, 13, (some ((.s 0), false)), .mov (.v 0)⟩,
    ⟨.push, 14, (some ((.s 1), false)), .len true (.s 0)⟩,
    ⟨.push, 15, (some ((.s 2), false)), .bin false .gtr (.s 0) (.c (.int .i64 (16000)))⟩,
    ⟨.push, 16, none, .pick (.s 3) (.c (.bool true)) (.s 0)⟩] (.s 0)
  (.seq (.region false [
      ⟨.var 1, 2, none, .newnil 1⟩,
      ⟨.var 2, 3, none, .mov (.c (.bool false))⟩])
   (.ret))
  (.skip))
 (.seq (.region false [
    ⟨.push, 17, none, .mkSl 1 (.int .u8 (0)) 0 []⟩,
    ⟨.var 3, 4, none, .mov (.s 0)⟩])
 (.seq (.seq (.region false [
     ⟨.var 4, 5, none, .mov (.c (.int .i64 (0)))⟩])
  (.block 0 (.loop ir11_k0 ir11_o0 ir11_r0 ir11_b0)))
 (.seq (.region false [
    ⟨.push, 47, none, .mov (.v 3)⟩,
    ⟨.var 1, 2, none, .mov (.s 0)⟩,
    ⟨.var 2, 3, none, .mov (.c (.bool true))⟩])
 (.ret))))), [.t 1, .t 2]⟩
noncomputable def t_spec_BytesOfHex : List (Nat × Ctr) := [(29, c_spec_l25Digit)]
theorem lk_spec_BytesOfHex_29 : look t_spec_BytesOfHex 29 = some c_spec_l25Digit := rfl
noncomputable def c_spec_BytesOfHex : Ctr := mkF t_spec_BytesOfHex ir11 [.bor]
theorem s_spec_BytesOfHex : Sound Try.prog 11 c_spec_BytesOfHex := mkF_sound _ rfl (snd_cons s_spec_l25Digit snd_nil) (by kernel_rfl : chkFn Try.prog 11 ir11 ir11_v = true)
theorem M_spec_BytesOfHex : c_spec_BytesOfHex.modes = [.bor] := rfl
theorem Fl_spec_BytesOfHex : c_spec_BytesOfHex.flat = true := rfl
attribute [go_sem] M_spec_BytesOfHex Fl_spec_BytesOfHex
attribute [go_sem] lk_spec_BytesOfHex_29
def E_spec_BytesOfHex_l1 (s_ : List UInt8) : ((List UInt8) × Int) → St
  | (out, i) => ⟨[.str s_, .any, .any, .own 3200000, .int .i64 i, .any, .any], [], [(3200000, ⟨1, List.map byteAV out⟩)], true⟩
def R_spec_BytesOfHex_l1 (s_ : List UInt8) : ((List UInt8) ⊕ ((List UInt8) × Bool)) → Res
  | .inl y => (.exit 0, ⟨[.any, .any, .any, .own 3200000, .any, .any, .any], [], [(3200000, ⟨1, List.map byteAV y⟩)], true⟩)
  | .inr y => (.ret, ⟨[.any, .own 3200000, .bool y.2, .any, .any, .any, .any], [], [(3200000, ⟨1, List.map byteAV y.1⟩)], true⟩)
theorem spec_BytesOfHex_l1_ex {s_ : List UInt8} {sgm_ : (List UInt8) × Int} {rho_ : (List UInt8) ⊕ ((List UInt8) × Bool)} (h : whileE (spec_BytesOfHex_l1 s_) sgm_ = some rho_) : ∃ L0, ∀ L, L0 ≤ L → iter (exec (look t_spec_BytesOfHex) L ir11_b0) ir11_k0 ir11_o0 ir11_r0 L (E_spec_BytesOfHex_l1 s_ sgm_) = R_spec_BytesOfHex_l1 s_ rho_ := by
  refine loop_ex (E := E_spec_BytesOfHex_l1 s_) (R := R_spec_BytesOfHex_l1 s_) (fun y => by first | (intro c; cases c) | (rcases y with y | y <;> (intro c; cases c)) | (rcases y with y | y | y <;> (intro c; cases c))) ?_ h
  clear h
  rintro ⟨out, i⟩ o_ h
  dsimp only [spec_BytesOfHex_l1] at h
  rcases it_some h with ⟨hk3, h⟩ | ⟨hk3, h⟩
  · try simp only [go_sem, n1, n2, n3, n4] at hk3
    all_goals
    obtain ⟨hk4, h⟩ := ck_some h
    try simp only [go_sem, n1, n2, n3, n4, hk3] at hk4
    all_goals
    obtain ⟨y_5, hk5, h⟩ := bd_some h
    have fhk5 := Fs_spec_l25Digit hk5
    try simp only [go_sem] at fhk5
    obtain ⟨hk6, h⟩ := ck_some h
    try simp only [go_sem, n1, n2, n3, n4, hk3, hk4] at hk6
    all_goals
    obtain ⟨y_7, hk7, h⟩ := bd_some h
    have fhk7 := Fs_spec_l25Digit hk7
    try simp only [go_sem] at fhk7
    rcases it_some h with ⟨hk8, h⟩ | ⟨hk8, h⟩
    · try simp only [go_sem, n1, n2, n3, n4, hk3, hk4, hk6] at hk8
      all_goals
      obtain rfl := so_some h
      refine ⟨0, fun L hL => ?_⟩
      simp only [go_sem, ir11, E_spec_BytesOfHex_l1, R_spec_BytesOfHex_l1, ir11_b0, ir11_k0, ir11_o0, ir11_r0, hk3, hk4, fhk5, hk6, fhk7, hk8]
    · try simp only [go_sem, n1, n2, n3, n4, hk3, hk4, hk6] at hk8
      all_goals
      obtain ⟨hk9, h⟩ := ck_some h
      try simp only [go_sem, n1, n2, n3, n4, hk3, hk4, hk6, hk8] at hk9
      all_goals
      obtain rfl := so_some h
      refine ⟨0, fun L hL => ?_⟩
      simp only [go_sem, ir11, E_spec_BytesOfHex_l1, R_spec_BytesOfHex_l1, ir11_b0, ir11_k0, ir11_o0, ir11_r0, hk3, hk4, fhk5, hk6, fhk7, hk8, hk9]
  · try simp only [go_sem, n1, n2, n3, n4] at hk3
    all_goals
    obtain rfl := so_some h
    refine ⟨0, fun L hL => ?_⟩
    simp only [go_sem, ir11, E_spec_BytesOfHex_l1, R_spec_BytesOfHex_l1, ir11_b0, ir11_k0, ir11_o0, ir11_r0, hk3]

theorem Fs_spec_BytesOfHex {s_ : List UInt8} {y_ : (List UInt8) × Bool} (h : spec_BytesOfHex s_ = some y_) : c_spec_BytesOfHex.F [.str s_] = ⟨true, .tup [.fresh 1 (List.map byteAV y_.1), .bool y_.2], [.any]⟩ := by
  refine mkF_E (by simp only [flatA, flatB, flat1, List.all_cons, List.all_nil, Bool.and_self, flatE_map (f := byteAV) (fun _ => rfl)]) ?_
  dsimp only [spec_BytesOfHex] at h
  obtain ⟨hk1, h⟩ := ck_some h
  try simp only [go_sem, n1, n2, n3, n4] at hk1
  all_goals
  rcases it_some h with ⟨hk2, h⟩ | ⟨hk2, h⟩
  · try simp only [go_sem, n1, n2, n3, n4, hk1] at hk2
    all_goals
    obtain rfl := so_some h
    refine ⟨0, fun L hL => ?_⟩
    simp only [go_sem, ir11, E_spec_BytesOfHex_l1, R_spec_BytesOfHex_l1, ir11_k0, ir11_o0, ir11_r0, hk1, hk2]
  · try simp only [go_sem, n1, n2, n3, n4, hk1] at hk2
    all_goals
    obtain ⟨y_10, hk10, h⟩ := bd_some h
    obtain ⟨Lhk10, ehk10⟩ := spec_BytesOfHex_l1_ex hk10
    rcases y_10 with y_10a | y_10b
    · dsimp only at h
      obtain rfl := so_some h
      refine ⟨Lhk10, fun L hL => ?_⟩
      have ehk10 := ehk10 L (by omega)
      try simp only [go_sem, E_spec_BytesOfHex_l1, R_spec_BytesOfHex_l1, ir11_k0, ir11_o0, ir11_r0] at ehk10
      simp only [go_sem, ir11, E_spec_BytesOfHex_l1, R_spec_BytesOfHex_l1, ir11_k0, ir11_o0, ir11_r0, hk1, hk2, ehk10]
    · dsimp only at h
      obtain rfl := so_some h
      refine ⟨Lhk10, fun L hL => ?_⟩
      have ehk10 := ehk10 L (by omega)
      try simp only [go_sem, E_spec_BytesOfHex_l1, R_spec_BytesOfHex_l1, ir11_k0, ir11_o0, ir11_r0] at ehk10
      simp only [go_sem, ir11, E_spec_BytesOfHex_l1, R_spec_BytesOfHex_l1, ir11_k0, ir11_o0, ir11_r0, hk1, hk2, ehk10]


theorem s_hIdx : Sound Try.prog 69 c_hIdx := hIdx_sound Try.func69 (by kernel_rfl) (by kernel_rfl) (by kernel_rfl) (by kernel_rfl)

def ir53_v : List Nat := [0, 1, 4]
def ir53 : AFn := ⟨2, 3, .seq (.region false [
    ⟨.var 2, 4, none, .mov (.c (.int .i64 (0)))⟩])
 (.seq (.region false [
    ⟨.push, 5, none, .mov (.v 0)⟩,
    ⟨.push, 6, none, .mov (.v 1)⟩,
    ⟨.push, 7, none, .call 69 [(.s 1), (.s 0)]⟩,
    ⟨.var 2, 4, none, .mov (.s 0)⟩])
 (.ret)), [.t 2]⟩
noncomputable def t_internal_stringslite_IndexByte : List (Nat × Ctr) := [(69, c_hIdx)]
theorem lk_internal_stringslite_IndexByte_69 : look t_internal_stringslite_IndexByte 69 = some c_hIdx := rfl
noncomputable def c_internal_stringslite_IndexByte : Ctr := mkF t_internal_stringslite_IndexByte ir53 [.bor, .bor]
theorem s_internal_stringslite_IndexByte : Sound Try.prog 53 c_internal_stringslite_IndexByte := mkF_sound _ rfl (snd_cons s_hIdx snd_nil) (by kernel_rfl : chkFn Try.prog 53 ir53 ir53_v = true)
theorem M_internal_stringslite_IndexByte : c_internal_stringslite_IndexByte.modes = [.bor, .bor] := rfl
theorem Fl_internal_stringslite_IndexByte : c_internal_stringslite_IndexByte.flat = true := rfl
attribute [go_sem] M_internal_stringslite_IndexByte Fl_internal_stringslite_IndexByte
attribute [go_sem] lk_internal_stringslite_IndexByte_69
theorem Fs_internal_stringslite_IndexByte {s_ : List UInt8} {c : UInt8} {y_ : Int} (h : internal_stringslite_IndexByte s_ c = some y_) : c_internal_stringslite_IndexByte.F [.str s_, .int .u8 (c.toNat : Int)] = ⟨true, .int .i64 y_, [.any, .any]⟩ := by
  refine mkF_E rfl ?_
  dsimp only [internal_stringslite_IndexByte] at h
  obtain ⟨y_1, hk1, h⟩ := bd_some h
  have fhk1 := Fs_hIdx hk1
  try simp only [go_sem] at fhk1
  obtain rfl := so_some h
  refine ⟨0, fun L hL => ?_⟩
  simp only [go_sem, ir53, fhk1]


def ir30_v : List Nat := [0, 1, 4]
def ir30 : AFn := ⟨2, 3, .seq (.region false [
    ⟨.var 2, 4, none, .mov (.c (.int .i64 (0)))⟩])
 (.seq (.region false [
    ⟨.push, 5, none, .mov (.v 0)⟩,
    ⟨.push, 6, none, .mov (.v 1)⟩,
    ⟨.push, 7, none, .call 53 [(.s 1), (.s 0)]⟩,
    ⟨.var 2, 4, none, .mov (.s 0)⟩])
 (.ret)), [.t 2]⟩
noncomputable def t_strings_IndexByte : List (Nat × Ctr) := [(53, c_internal_stringslite_IndexByte)]
theorem lk_strings_IndexByte_53 : look t_strings_IndexByte 53 = some c_internal_stringslite_IndexByte := rfl
noncomputable def c_strings_IndexByte : Ctr := mkF t_strings_IndexByte ir30 [.bor, .bor]
theorem s_strings_IndexByte : Sound Try.prog 30 c_strings_IndexByte := mkF_sound _ rfl (snd_cons s_internal_stringslite_IndexByte snd_nil) (by kernel_rfl : chkFn Try.prog 30 ir30 ir30_v = true)
theorem M_strings_IndexByte : c_strings_IndexByte.modes = [.bor, .bor] := rfl
theorem Fl_strings_IndexByte : c_strings_IndexByte.flat = true := rfl
attribute [go_sem] M_strings_IndexByte Fl_strings_IndexByte
attribute [go_sem] lk_strings_IndexByte_53
theorem Fs_strings_IndexByte {s_ : List UInt8} {c : UInt8} {y_ : Int} (h : strings_IndexByte s_ c = some y_) : c_strings_IndexByte.F [.str s_, .int .u8 (c.toNat : Int)] = ⟨true, .int .i64 y_, [.any, .any]⟩ := by
  refine mkF_E rfl ?_
  dsimp only [strings_IndexByte] at h
  obtain ⟨y_1, hk1, h⟩ := bd_some h
  have fhk1 := Fs_internal_stringslite_IndexByte hk1
  try simp only [go_sem] at fhk1
  obtain rfl := so_some h
  refine ⟨0, fun L hL => ?_⟩
  simp only [go_sem, ir30, fhk1]


def ir12_b0 : IR := .seq (.test false [
    ⟨.push, 18, none, .mov (.v 4)⟩,
    ⟨.push, 19, none, .mov (.v 0)⟩,
    ⟨.push, 20, none, .len true (.s 0)⟩,
    ⟨.push, 21, none, .bin false .lss (.s 2) (.s 0)⟩] (.s 0)
  (.skip)
  (.exit 0))
 (.seq (.block 1 (.seq (.anyo 9 [
      ⟨.slot 0, 24, none, .mov (.v 0)⟩,
      ⟨.slot 1, 25, none, .mov (.v 4)⟩,
      ⟨.slot 2, 26, none, .ixStr (.s 0) (.s 1)⟩,
      ⟨.slot 3, 27, none, .callp 30 [(.c (.str [48, 49, 50, 51, 52, 53, 54, 55, 56, 57, 97, 98, 99, 100, 101, 102])), (.s 2)]⟩,
      ⟨.slot 4, 28, none, .mov (.v 0)⟩,
      ⟨.slot 5, 29, none, .mov (.v 4)⟩,
      ⟨.slot 6, 30, none, .bin false .add (.s 5) (.c (.int .i64 (1)))⟩,
      ⟨.slot 7, 31, none, .ixStr (.s 4) (.s 6)⟩,
      ⟨.slot 8, 32, none, .callp 30 [(.c (.str [48, 49, 50, 51, 52, 53, 54, 55, 56, 57, 97, 98, 99, 100, 101, 102])), (.s 7)]⟩,
      ⟨.var 5, 6, none, .mov (.s 3)⟩,
      ⟨.var 6, 7, none, .mov (.s 8)⟩] [] .skip)
   (.seq (.test false [
      ⟨.push, 33, none, .mov (.v 5)⟩,
      ⟨.push, 34, none, .bin false .lss (.s 0) (.c (.int .i64 (0)))⟩,
      ⟨.push, 35, none, .mov (.s 0)⟩,
      ⟨.push, 36, (some ((.s 0), false)), .mov (.v 6)⟩,
      ⟨.push, 37, (some ((.s 1), false)), .bin false .lss (.s 0) (.c (.int .i64 (0)))⟩,
      ⟨.push, 38, none, .pick (.s 2) (.c (.bool true)) (.s 0)⟩] (.s 0)
    (.seq (.region false [
        ⟨.var 1, 2, none, .newnil 1⟩,
        ⟨.var 2, 3, none, .mov (.c (.bool false))⟩])
     (.ret))
    (.skip))
   (.region false [
     ⟨.push, 39, none, .mov (.v 3)⟩,
     ⟨.push, 40, none, .mov (.v 5)⟩,
     ⟨.push, 41, none, .bin false .mul (.c (.int .i64 (16))) (.s 0)⟩,
     ⟨.push, 42, none, .mov (.v 6)⟩,
     ⟨.push, 43, none, .bin false .add (.s 1) (.s 0)⟩,
     ⟨.push, 44, none, .conv .u8 (.s 0)⟩,
     ⟨.push, 45, none, .mkSl 1 (.int .u8 (0)) 1 [(0, (.s 0))]⟩,
     ⟨.push, 46, none, .app 1 1 (.int .u8 (0)) (.s 6) (.s 0)⟩,
     ⟨.var 3, 4, none, .mov (.s 0)⟩]))))
 (.region false [
   ⟨.push, 22, none, .mov (.v 4)⟩,
   ⟨.push, 23, none, .bin false .add (.s 0) (.c (.int .i64 (2)))⟩,
   ⟨.var 4, 5, none, .mov (.s 0)⟩]))
def ir12_k0 : List Bool := [true, false, false, true, true, false, false]
def ir12_o0 : List Bool := [false, false, false, true, false, false, false]
def ir12_r0 : List Bool := [false, true, true, false, false, false, false]
def ir12_v : List Nat := [0, 2, 3, 4, 5, 6, 7]
def ir12 : AFn := ⟨1, 7, .seq (.region false [
    ⟨.var 1, 2, none, .newnil 1⟩,
    ⟨.var 2, 3, none, .mov (.c (.bool false))⟩])
 (.seq (.test false [
    ⟨.push, 8, none, .mov (.v 0)⟩,
    ⟨.push, 9, none, .len true (.s 0)⟩,
    ⟨.push, 10, none, .bin false .rem (.s 0) (.c (.int .i64 (2)))⟩,
    ⟨.push, 11, none, .bin false .neq (.s 0) (.c (.int .i64 (0)))⟩,
    ⟨.push, 12, none, .mov (.s 0)⟩,
    ⟨.push, 13, (some ((.s 0), false)), .mov (.v 0)⟩,
    ⟨.push, 14, (some ((.s 1), false)), .len true (.s 0)⟩,
    ⟨.push, 15, (some ((.s 2), false)), .bin false .gtr (.s 0) (.c (.int .i64 (16000)))⟩,
    ⟨.push, 16, none, .pick (.s 3) (.c (.bool true)) (.s 0)⟩] (.s 0)
  (.seq (.region false [
      ⟨.var 1, 2, none, .newnil 1⟩,
      ⟨.var 2, 3, none, .mov (.c (.bool false))⟩])
   (.ret))
  (.skip))
 (.seq (.region false [
    ⟨.push, 17, none, .mkSl 1 (.int .u8 (0)) 0 []⟩,
    ⟨.var 3, 4, none, .mov (.s 0)⟩])
 (.seq (.seq (.region false [
     ⟨.var 4, 5, none, .mov (.c (.int .i64 (0)))⟩])
  (.block 0 (.loop ir12_k0 ir12_o0 ir12_r0 ir12_b0)))
 (.seq (.region false [
    ⟨.push, 47, none, .mov (.v 3)⟩,
    ⟨.var 1, 2, none, .mov (.s 0)⟩,
    ⟨.var 2, 3, none, .mov (.c (.bool true))⟩])
 (.ret))))), [.t 1, .t 2]⟩
noncomputable def t_impl_BytesOfHex : List (Nat × Ctr) := [(30, c_strings_IndexByte)]
theorem lk_impl_BytesOfHex_30 : look t_impl_BytesOfHex 30 = some c_strings_IndexByte := rfl
noncomputable def c_impl_BytesOfHex : Ctr := mkF t_impl_BytesOfHex ir12 [.bor]
theorem s_impl_BytesOfHex : Sound Try.prog 12 c_impl_BytesOfHex := mkF_sound _ rfl (snd_cons s_strings_IndexByte snd_nil) (by kernel_rfl : chkFn Try.prog 12 ir12 ir12_v = true)
theorem M_impl_BytesOfHex : c_impl_BytesOfHex.modes = [.bor] := rfl
theorem Fl_impl_BytesOfHex : c_impl_BytesOfHex.flat = true := rfl
attribute [go_sem] M_impl_BytesOfHex Fl_impl_BytesOfHex
attribute [go_sem] lk_impl_BytesOfHex_30
def E_impl_BytesOfHex_l1 (s_ : List UInt8) : ((List UInt8) × Int) → St
  | (out, i) => ⟨[.str s_, .any, .any, .own 3200000, .int .i64 i, .any, .any], [], [(3200000, ⟨1, List.map byteAV out⟩)], true⟩
def R_impl_BytesOfHex_l1 (s_ : List UInt8) : ((List UInt8) ⊕ ((List UInt8) × Bool)) → Res
  | .inl y => (.exit 0, ⟨[.any, .any, .any, .own 3200000, .any, .any, .any], [], [(3200000, ⟨1, List.map byteAV y⟩)], true⟩)
  | .inr y => (.ret, ⟨[.any, .own 3200000, .bool y.2, .any, .any, .any, .any], [], [(3200000, ⟨1, List.map byteAV y.1⟩)], true⟩)
theorem impl_BytesOfHex_l1_ex {s_ : List UInt8} {sgm_ : (List UInt8) × Int} {rho_ : (List UInt8) ⊕ ((List UInt8) × Bool)} (h : whileE (impl_BytesOfHex_l1 s_) sgm_ = some rho_) : ∃ L0, ∀ L, L0 ≤ L → iter (exec (look t_impl_BytesOfHex) L ir12_b0) ir12_k0 ir12_o0 ir12_r0 L (E_impl_BytesOfHex_l1 s_ sgm_) = R_impl_BytesOfHex_l1 s_ rho_ := by
  refine loop_ex (E := E_impl_BytesOfHex_l1 s_) (R := R_impl_BytesOfHex_l1 s_) (fun y => by first | (intro c; cases c) | (rcases y with y | y <;> (intro c; cases c)) | (rcases y with y | y | y <;> (intro c; cases c))) ?_ h
  clear h
  rintro ⟨out, i⟩ o_ h
  dsimp only [impl_BytesOfHex_l1] at h
  rcases it_some h with ⟨hk3, h⟩ | ⟨hk3, h⟩
  · try simp only [go_sem, n1, n2, n3, n4] at hk3
    all_goals
    obtain ⟨hk4, h⟩ := ck_some h
    try simp only [go_sem, n1, n2, n3, n4, hk3] at hk4
    all_goals
    obtain ⟨y_5, hk5, h⟩ := bd_some h
    have fhk5 := Fs_strings_IndexByte hk5
    try simp only [go_sem] at fhk5
    obtain ⟨hk6, h⟩ := ck_some h
    try simp only [go_sem, n1, n2, n3, n4, hk3, hk4] at hk6
    all_goals
    obtain ⟨y_7, hk7, h⟩ := bd_some h
    have fhk7 := Fs_strings_IndexByte hk7
    try simp only [go_sem] at fhk7
    rcases it_some h with ⟨hk8, h⟩ | ⟨hk8, h⟩
    · try simp only [go_sem, n1, n2, n3, n4, hk3, hk4, hk6] at hk8
      all_goals
      obtain rfl := so_some h
      refine ⟨0, fun L hL => ?_⟩
      simp only [go_sem, ir12, E_impl_BytesOfHex_l1, R_impl_BytesOfHex_l1, ir12_b0, ir12_k0, ir12_o0, ir12_r0, hk3, hk4, fhk5, hk6, fhk7, hk8]
    · try simp only [go_sem, n1, n2, n3, n4, hk3, hk4, hk6] at hk8
      all_goals
      obtain ⟨hk9, h⟩ := ck_some h
      try simp only [go_sem, n1, n2, n3, n4, hk3, hk4, hk6, hk8] at hk9
      all_goals
      obtain rfl := so_some h
      refine ⟨0, fun L hL => ?_⟩
      simp only [go_sem, ir12, E_impl_BytesOfHex_l1, R_impl_BytesOfHex_l1, ir12_b0, ir12_k0, ir12_o0, ir12_r0, hk3, hk4, fhk5, hk6, fhk7, hk8, hk9]
  · try simp only [go_sem, n1, n2, n3, n4] at hk3
    all_goals
    obtain rfl := so_some h
    refine ⟨0, fun L hL => ?_⟩
    simp only [go_sem, ir12, E_impl_BytesOfHex_l1, R_impl_BytesOfHex_l1, ir12_b0, ir12_k0, ir12_o0, ir12_r0, hk3]

theorem Fs_impl_BytesOfHex {s_ : List UInt8} {y_ : (List UInt8) × Bool} (h : impl_BytesOfHex s_ = some y_) : c_impl_BytesOfHex.F [.str s_] = ⟨true, .tup [.fresh 1 (List.map byteAV y_.1), .bool y_.2], [.any]⟩ := by
  refine mkF_E (by simp only [flatA, flatB, flat1, List.all_cons, List.all_nil, Bool.and_self, flatE_map (f := byteAV) (fun _ => rfl)]) ?_
  dsimp only [impl_BytesOfHex] at h
  obtain ⟨hk1, h⟩ := ck_some h
  try simp only [go_sem, n1, n2, n3, n4] at hk1
  all_goals
  rcases it_some h with ⟨hk2, h⟩ | ⟨hk2, h⟩
  · try simp only [go_sem, n1, n2, n3, n4, hk1] at hk2
    all_goals
    obtain rfl := so_some h
    refine ⟨0, fun L hL => ?_⟩
    simp only [go_sem, ir12, E_impl_BytesOfHex_l1, R_impl_BytesOfHex_l1, ir12_k0, ir12_o0, ir12_r0, hk1, hk2]
  · try simp only [go_sem, n1, n2, n3, n4, hk1] at hk2
    all_goals
    obtain ⟨y_10, hk10, h⟩ := bd_some h
    obtain ⟨Lhk10, ehk10⟩ := impl_BytesOfHex_l1_ex hk10
    rcases y_10 with y_10a | y_10b
    · dsimp only at h
      obtain rfl := so_some h
      refine ⟨Lhk10, fun L hL => ?_⟩
      have ehk10 := ehk10 L (by omega)
      try simp only [go_sem, E_impl_BytesOfHex_l1, R_impl_BytesOfHex_l1, ir12_k0, ir12_o0, ir12_r0] at ehk10
      simp only [go_sem, ir12, E_impl_BytesOfHex_l1, R_impl_BytesOfHex_l1, ir12_k0, ir12_o0, ir12_r0, hk1, hk2, ehk10]
    · dsimp only at h
      obtain rfl := so_some h
      refine ⟨Lhk10, fun L hL => ?_⟩
      have ehk10 := ehk10 L (by omega)
      try simp only [go_sem, E_impl_BytesOfHex_l1, R_impl_BytesOfHex_l1, ir12_k0, ir12_o0, ir12_r0] at ehk10
      simp only [go_sem, ir12, E_impl_BytesOfHex_l1, R_impl_BytesOfHex_l1, ir12_k0, ir12_o0, ir12_r0, hk1, hk2, ehk10]


def ir10_b0 : IR := .seq (.test false [
    ⟨.push, 11, none, .mov (.v 3)⟩,
    ⟨.push, 12, none, .mov (.v 0)⟩,
    ⟨.push, 13, none, .len false (.s 0)⟩,
    ⟨.push, 14, none, .bin false .lss (.s 2) (.s 0)⟩] (.s 0)
  (.skip)
  (.exit 0))
 (.seq (.block 1 (.anyo 9 [
     ⟨.slot 0, 17, none, .mov (.v 0)⟩,
     ⟨.slot 1, 18, none, .mov (.v 3)⟩,
     ⟨.slot 2, 19, none, .ixAddr 1 (.s 0) (.s 1)⟩,
     ⟨.slot 3, 20, none, .load false 1 (.s 2)⟩,
     ⟨.slot 4, 21, none, .mov (.v 1)⟩,
     ⟨.slot 5, 22, none, .mov (.v 3)⟩,
     ⟨.slot 6, 23, none, .ixAddr 1 (.s 4) (.s 5)⟩,
     ⟨.slot 7, 24, none, .load false 1 (.s 6)⟩,
     ⟨.slot 8, 25, none, .bin false .neq (.s 3) (.s 7)⟩] [] (.cond (.s 8)
   (.seq (.region false [
       ⟨.var 2, 4, none, .mov (.c (.bool false))⟩])
    (.ret))
   (.skip))))
 (.region false [
   ⟨.push, 15, none, .mov (.v 3)⟩,
   ⟨.push, 16, none, .bin false .add (.s 0) (.c (.int .i64 (1)))⟩,
   ⟨.var 3, 5, none, .mov (.s 0)⟩]))
def ir10_k0 : List Bool := [true, true, false, true]
def ir10_o0 : List Bool := [false, false, false, false]
def ir10_r0 : List Bool := [false, false, true, false]
def ir10_v : List Nat := [0, 1, 4, 5]
def ir10 : AFn := ⟨2, 4, .seq (.region false [
    ⟨.var 2, 4, none, .mov (.c (.bool false))⟩])
 (.seq (.test false [
    ⟨.push, 6, none, .mov (.v 0)⟩,
    ⟨.push, 7, none, .len false (.s 0)⟩,
    ⟨.push, 8, none, .mov (.v 1)⟩,
    ⟨.push, 9, none, .len false (.s 0)⟩,
    ⟨.push, 10, none, .bin false .neq (.s 2) (.s 0)⟩] (.s 0)
  (.seq (.region false [
      ⟨.var 2, 4, none, .mov (.c (.bool false))⟩])
   (.ret))
  (.skip))
 (.seq (.seq (.region false [
     ⟨.var 3, 5, none, .mov (.c (.int .i64 (0)))⟩])
  (.block 0 (.loop ir10_k0 ir10_o0 ir10_r0 ir10_b0)))
 (.seq (.region false [
    ⟨.var 2, 4, none, .mov (.c (.bool true))⟩])
 (.ret)))), [.t 2]⟩
noncomputable def t_laws_eqByteS : List (Nat × Ctr) := []
noncomputable def c_laws_eqByteS : Ctr := mkF t_laws_eqByteS ir10 [.bor, .bor]
theorem s_laws_eqByteS : Sound Try.prog 10 c_laws_eqByteS := mkF_sound _ rfl snd_nil (by kernel_rfl : chkFn Try.prog 10 ir10 ir10_v = true)
theorem M_laws_eqByteS : c_laws_eqByteS.modes = [.bor, .bor] := rfl
theorem Fl_laws_eqByteS : c_laws_eqByteS.flat = true := rfl
attribute [go_sem] M_laws_eqByteS Fl_laws_eqByteS
def E_laws_eqByteS_l1 (a : List UInt8) (b : List UInt8) : Int → St
  | i => ⟨[.sl 1 (List.map byteAV a), .sl 1 (List.map byteAV b), .any, .int .i64 i], [], [], true⟩
def R_laws_eqByteS_l1 (a : List UInt8) (b : List UInt8) : (Unit ⊕ Bool) → Res
  | .inl y => (.exit 0, ⟨[.any, .any, .any, .any], [], [], true⟩)
  | .inr y => (.ret, ⟨[.any, .any, .bool y, .any], [], [], true⟩)
theorem laws_eqByteS_l1_ex {a : List UInt8} {b : List UInt8} {sgm_ : Int} {rho_ : Unit ⊕ Bool} (h : whileE (laws_eqByteS_l1 a b) sgm_ = some rho_) : ∃ L0, ∀ L, L0 ≤ L → iter (exec (look t_laws_eqByteS) L ir10_b0) ir10_k0 ir10_o0 ir10_r0 L (E_laws_eqByteS_l1 a b sgm_) = R_laws_eqByteS_l1 a b rho_ := by
  refine loop_ex (E := E_laws_eqByteS_l1 a b) (R := R_laws_eqByteS_l1 a b) (fun y => by first | (intro c; cases c) | (rcases y with y | y <;> (intro c; cases c)) | (rcases y with y | y | y <;> (intro c; cases c))) ?_ h
  clear h
  intro i o_ h
  dsimp only [laws_eqByteS_l1] at h
  rcases it_some h with ⟨hk2, h⟩ | ⟨hk2, h⟩
  · try simp only [go_sem, n1, n2, n3, n4] at hk2
    all_goals
    obtain ⟨hk3, h⟩ := ck_some h
    have lhk3 := ix_lt hk3
    have xhk3 := getD_mapD byteAV a lhk3
    try simp only [go_sem] at lhk3
    try simp only [go_sem] at xhk3
    try simp only [go_sem, n1, n2, n3, n4, hk2] at hk3
    all_goals
    obtain ⟨hk4, h⟩ := ck_some h
    have lhk4 := ix_lt hk4
    have xhk4 := getD_mapD byteAV b lhk4
    try simp only [go_sem] at lhk4
    try simp only [go_sem] at xhk4
    try simp only [go_sem, n1, n2, n3, n4, hk2, hk3] at hk4
    all_goals
    rcases it_some h with ⟨hk5, h⟩ | ⟨hk5, h⟩
    · try simp only [go_sem, n1, n2, n3, n4, hk2, hk3, hk4] at hk5
      all_goals
      obtain rfl := so_some h
      refine ⟨0, fun L hL => ?_⟩
      simp only [go_sem, ir10, E_laws_eqByteS_l1, R_laws_eqByteS_l1, ir10_b0, ir10_k0, ir10_o0, ir10_r0, hk2, hk3, lhk3, xhk3, hk4, lhk4, xhk4, hk5]
    · try simp only [go_sem, n1, n2, n3, n4, hk2, hk3, hk4] at hk5
      all_goals
      obtain rfl := so_some h
      refine ⟨0, fun L hL => ?_⟩
      simp only [go_sem, ir10, E_laws_eqByteS_l1, R_laws_eqByteS_l1, ir10_b0, ir10_k0, ir10_o0, ir10_r0, hk2, hk3, lhk3, xhk3, hk4, lhk4, xhk4, hk5]
  · try simp only [go_sem, n1, n2, n3, n4] at hk2
    all_goals
    obtain rfl := so_some h
    refine ⟨0, fun L hL => ?_⟩
    simp only [go_sem, ir10, E_laws_eqByteS_l1, R_laws_eqByteS_l1, ir10_b0, ir10_k0, ir10_o0, ir10_r0, hk2]

theorem Fs_laws_eqByteS {a : List UInt8} {b : List UInt8} {y_ : Bool} (h : laws_eqByteS a b = some y_) : c_laws_eqByteS.F [.sl 1 (List.map byteAV a), .sl 1 (List.map byteAV b)] = ⟨true, .bool y_, [.any, .any]⟩ := by
  refine mkF_E rfl ?_
  dsimp only [laws_eqByteS] at h
  rcases it_some h with ⟨hk1, h⟩ | ⟨hk1, h⟩
  · try simp only [go_sem, n1, n2, n3, n4] at hk1
    all_goals
    obtain rfl := so_some h
    refine ⟨0, fun L hL => ?_⟩
    simp only [go_sem, ir10, E_laws_eqByteS_l1, R_laws_eqByteS_l1, ir10_k0, ir10_o0, ir10_r0, hk1]
  · try simp only [go_sem, n1, n2, n3, n4] at hk1
    all_goals
    obtain ⟨y_6, hk6, h⟩ := bd_some h
    obtain ⟨Lhk6, ehk6⟩ := laws_eqByteS_l1_ex hk6
    rcases y_6 with y_6a | y_6b
    · dsimp only at h
      obtain rfl := so_some h
      refine ⟨Lhk6, fun L hL => ?_⟩
      have ehk6 := ehk6 L (by omega)
      try simp only [go_sem, E_laws_eqByteS_l1, R_laws_eqByteS_l1, ir10_k0, ir10_o0, ir10_r0] at ehk6
      simp only [go_sem, ir10, E_laws_eqByteS_l1, R_laws_eqByteS_l1, ir10_k0, ir10_o0, ir10_r0, hk1, ehk6]
    · dsimp only at h
      obtain rfl := so_some h
      refine ⟨Lhk6, fun L hL => ?_⟩
      have ehk6 := ehk6 L (by omega)
      try simp only [go_sem, E_laws_eqByteS_l1, R_laws_eqByteS_l1, ir10_k0, ir10_o0, ir10_r0] at ehk6
      simp only [go_sem, ir10, E_laws_eqByteS_l1, R_laws_eqByteS_l1, ir10_k0, ir10_o0, ir10_r0, hk1, ehk6]


def ir13_b0 : IR := .seq (.test false [
    ⟨.push, 6, none, .mov (.v 3)⟩,
    ⟨.push, 7, none, .mov (.v 0)⟩,
    ⟨.push, 8, none, .len false (.s 0)⟩,
    ⟨.push, 9, none, .bin false .lss (.s 2) (.s 0)⟩] (.s 0)
  (.skip)
  (.exit 0))
 (.seq (.block 1 (.seq (.region false [
      ⟨.push, 12, none, .mov (.v 0)⟩,
      ⟨.push, 13, none, .mov (.v 3)⟩,
      ⟨.push, 14, none, .mov (.v 1)⟩,
      ⟨.push, 15, none, .conv .u8 (.s 0)⟩,
      ⟨.push, 16, none, .ixAddr 1 (.s 3) (.s 2)⟩,
      ⟨.no, 0, none, .store 1 (.s 0) (.s 1)⟩])
   (.region false [
     ⟨.push, 17, none, .mov (.v 1)⟩,
     ⟨.push, 18, none, .bin false .add (.s 0) (.c (.int .i64 (1)))⟩,
     ⟨.var 1, 1, none, .mov (.s 0)⟩])))
 (.region false [
   ⟨.push, 10, none, .mov (.v 3)⟩,
   ⟨.push, 11, none, .bin false .add (.s 0) (.c (.int .i64 (1)))⟩,
   ⟨.var 3, 5, none, .mov (.s 0)⟩]))
def ir13_k0 : List Bool := [true, true, false, true]
def ir13_o0 : List Bool := [true, true, false, false]
def ir13_r0 : List Bool := [true, false, true, false]
def ir13_v : List Nat := [0, 1, 4, 5]
def ir13 : AFn := ⟨2, 4, .seq (.region false [
    ⟨.var 2, 4, none, .mov (.c (.int .i64 (0)))⟩])
 (.seq (.seq (.region false [
     ⟨.var 3, 5, none, .mov (.c (.int .i64 (0)))⟩])
  (.block 0 (.loop ir13_k0 ir13_o0 ir13_r0 ir13_b0)))
 (.seq (.region false [
    ⟨.push, 19, none, .mov (.v 1)⟩,
    ⟨.var 2, 4, none, .mov (.s 0)⟩])
 (.ret))), [.t 2]⟩
noncomputable def t_laws_markByteS : List (Nat × Ctr) := []
noncomputable def c_laws_markByteS : Ctr := mkN t_laws_markByteS ir13 [.io, .bor]
theorem s_laws_markByteS : Sound Try.prog 13 c_laws_markByteS := mkN_sound _ snd_nil (by kernel_rfl : chkFn Try.prog 13 ir13 ir13_v = true)
theorem M_laws_markByteS : c_laws_markByteS.modes = [.io, .bor] := rfl
theorem Fl_laws_markByteS : c_laws_markByteS.flat = false := rfl
attribute [go_sem] M_laws_markByteS Fl_laws_markByteS
def E_laws_markByteS_l1  : ((List UInt8) × Int × Int) → St
  | (a, k, i) => ⟨[.own 31, .int .i64 k, .any, .int .i64 i], [], [(31, ⟨1, List.map byteAV a⟩)], true⟩
def R_laws_markByteS_l1  (y : (List UInt8) × Int) : Res := (.exit 0, ⟨[.own 31, .int .i64 y.2, .any, .any], [], [(31, ⟨1, List.map byteAV y.1⟩)], true⟩)
theorem laws_markByteS_l1_ex  {sgm_ : (List UInt8) × Int × Int} {rho_ : (List UInt8) × Int} (h : whileE (laws_markByteS_l1) sgm_ = some rho_) : ∃ L0, ∀ L, L0 ≤ L → iter (exec (look t_laws_markByteS) L ir13_b0) ir13_k0 ir13_o0 ir13_r0 L (E_laws_markByteS_l1 sgm_) = R_laws_markByteS_l1 rho_ := by
  refine loop_ex (E := E_laws_markByteS_l1) (R := R_laws_markByteS_l1) (fun y => by first | (intro c; cases c) | (rcases y with y | y <;> (intro c; cases c)) | (rcases y with y | y | y <;> (intro c; cases c))) ?_ h
  clear h
  rintro ⟨a, k, i⟩ o_ h
  dsimp only [laws_markByteS_l1] at h
  rcases it_some h with ⟨hk1, h⟩ | ⟨hk1, h⟩
  · try simp only [go_sem, n1, n2, n3, n4] at hk1
    all_goals
    obtain ⟨hk2, h⟩ := ck_some h
    have lhk2 := ix_lt hk2
    have xhk2 := getD_mapD byteAV a lhk2
    try simp only [go_sem] at lhk2
    try simp only [go_sem] at xhk2
    try simp only [go_sem, n1, n2, n3, n4, hk1] at hk2
    all_goals
    obtain rfl := so_some h
    refine ⟨0, fun L hL => ?_⟩
    simp only [go_sem, ir13, E_laws_markByteS_l1, R_laws_markByteS_l1, ir13_b0, ir13_k0, ir13_o0, ir13_r0, hk1, hk2, lhk2, xhk2]
  · try simp only [go_sem, n1, n2, n3, n4] at hk1
    all_goals
    obtain rfl := so_some h
    refine ⟨0, fun L hL => ?_⟩
    simp only [go_sem, ir13, E_laws_markByteS_l1, R_laws_markByteS_l1, ir13_b0, ir13_k0, ir13_o0, ir13_r0, hk1]

theorem Fs_laws_markByteS {a : List UInt8} {k : Int} {y_ : Int × (List UInt8)} (h : laws_markByteS a k = some y_) : c_laws_markByteS.F [.fresh 1 (List.map byteAV a), .int .i64 k] = ⟨true, .int .i64 y_.1, [.fresh 1 (List.map byteAV y_.2), .any]⟩ := by
  refine mkN_E ?_
  dsimp only [laws_markByteS] at h
  obtain ⟨y_3, hk3, h⟩ := bd_some h
  obtain ⟨Lhk3, ehk3⟩ := laws_markByteS_l1_ex hk3
  obtain ⟨hk4, h⟩ := ck_some h
  try simp only [go_sem, n1, n2, n3, n4] at hk4
  all_goals
  obtain rfl := so_some h
  refine ⟨Lhk3, fun L hL => ?_⟩
  have ehk3 := ehk3 L (by omega)
  try simp only [go_sem, E_laws_markByteS_l1, R_laws_markByteS_l1, ir13_k0, ir13_o0, ir13_r0] at ehk3
  simp only [go_sem, ir13, E_laws_markByteS_l1, R_laws_markByteS_l1, ir13_k0, ir13_o0, ir13_r0, hk4, ehk3]


def ir14_b0 : IR := .seq (.test false [
    ⟨.push, 6, none, .mov (.v 3)⟩,
    ⟨.push, 7, none, .mov (.v 0)⟩,
    ⟨.push, 8, none, .len false (.s 0)⟩,
    ⟨.push, 9, none, .bin false .lss (.s 2) (.s 0)⟩] (.s 0)
  (.skip)
  (.exit 0))
 (.seq (.block 1 (.seq (.test false [
      ⟨.push, 12, none, .mov (.v 0)⟩,
      ⟨.push, 13, none, .mov (.v 3)⟩,
      ⟨.push, 14, none, .ixAddr 1 (.s 1) (.s 0)⟩,
      ⟨.push, 15, none, .load false 1 (.s 0)⟩,
      ⟨.push, 16, none, .mov (.v 1)⟩,
      ⟨.push, 17, none, .conv .u8 (.s 0)⟩,
      ⟨.push, 18, none, .bin false .neq (.s 2) (.s 0)⟩] (.s 0)
    (.seq (.region false [
        ⟨.var 2, 4, none, .mov (.c (.int .i64 (-1)))⟩])
     (.ret))
    (.skip))
   (.region false [
     ⟨.push, 19, none, .mov (.v 1)⟩,
     ⟨.push, 20, none, .bin false .add (.s 0) (.c (.int .i64 (1)))⟩,
     ⟨.var 1, 1, none, .mov (.s 0)⟩])))
 (.region false [
   ⟨.push, 10, none, .mov (.v 3)⟩,
   ⟨.push, 11, none, .bin false .add (.s 0) (.c (.int .i64 (1)))⟩,
   ⟨.var 3, 5, none, .mov (.s 0)⟩]))
def ir14_k0 : List Bool := [true, true, false, true]
def ir14_o0 : List Bool := [false, true, false, false]
def ir14_r0 : List Bool := [false, false, true, false]
def ir14_v : List Nat := [0, 1, 4, 5]
def ir14 : AFn := ⟨2, 4, .seq (.region false [
    ⟨.var 2, 4, none, .mov (.c (.int .i64 (0)))⟩])
 (.seq (.seq (.region false [
     ⟨.var 3, 5, none, .mov (.c (.int .i64 (0)))⟩])
  (.block 0 (.loop ir14_k0 ir14_o0 ir14_r0 ir14_b0)))
 (.seq (.region false [
    ⟨.push, 21, none, .mov (.v 1)⟩,
    ⟨.var 2, 4, none, .mov (.s 0)⟩])
 (.ret))), [.t 2]⟩
noncomputable def t_laws_heldByteS : List (Nat × Ctr) := []
noncomputable def c_laws_heldByteS : Ctr := mkF t_laws_heldByteS ir14 [.bor, .bor]
theorem s_laws_heldByteS : Sound Try.prog 14 c_laws_heldByteS := mkF_sound _ rfl snd_nil (by kernel_rfl : chkFn Try.prog 14 ir14 ir14_v = true)
theorem M_laws_heldByteS : c_laws_heldByteS.modes = [.bor, .bor] := rfl
theorem Fl_laws_heldByteS : c_laws_heldByteS.flat = true := rfl
attribute [go_sem] M_laws_heldByteS Fl_laws_heldByteS
def E_laws_heldByteS_l1 (a : List UInt8) : (Int × Int) → St
  | (k, i) => ⟨[.sl 1 (List.map byteAV a), .int .i64 k, .any, .int .i64 i], [], [], true⟩
def R_laws_heldByteS_l1 (a : List UInt8) : (Int ⊕ Int) → Res
  | .inl y => (.exit 0, ⟨[.any, .int .i64 y, .any, .any], [], [], true⟩)
  | .inr y => (.ret, ⟨[.any, .any, .int .i64 y, .any], [], [], true⟩)
theorem laws_heldByteS_l1_ex {a : List UInt8} {sgm_ : Int × Int} {rho_ : Int ⊕ Int} (h : whileE (laws_heldByteS_l1 a) sgm_ = some rho_) : ∃ L0, ∀ L, L0 ≤ L → iter (exec (look t_laws_heldByteS) L ir14_b0) ir14_k0 ir14_o0 ir14_r0 L (E_laws_heldByteS_l1 a sgm_) = R_laws_heldByteS_l1 a rho_ := by
  refine loop_ex (E := E_laws_heldByteS_l1 a) (R := R_laws_heldByteS_l1 a) (fun y => by first | (intro c; cases c) | (rcases y with y | y <;> (intro c; cases c)) | (rcases y with y | y | y <;> (intro c; cases c))) ?_ h
  clear h
  rintro ⟨k, i⟩ o_ h
  dsimp only [laws_heldByteS_l1] at h
  rcases it_some h with ⟨hk1, h⟩ | ⟨hk1, h⟩
  · try simp only [go_sem, n1, n2, n3, n4] at hk1
    all_goals
    obtain ⟨hk2, h⟩ := ck_some h
    have lhk2 := ix_lt hk2
    have xhk2 := getD_mapD byteAV a lhk2
    try simp only [go_sem] at lhk2
    try simp only [go_sem] at xhk2
    try simp only [go_sem, n1, n2, n3, n4, hk1] at hk2
    all_goals
    rcases it_some h with ⟨hk3, h⟩ | ⟨hk3, h⟩
    · try simp only [go_sem, n1, n2, n3, n4, hk1, hk2] at hk3
      all_goals
      obtain rfl := so_some h
      refine ⟨0, fun L hL => ?_⟩
      simp only [go_sem, ir14, E_laws_heldByteS_l1, R_laws_heldByteS_l1, ir14_b0, ir14_k0, ir14_o0, ir14_r0, hk1, hk2, lhk2, xhk2, hk3]
    · try simp only [go_sem, n1, n2, n3, n4, hk1, hk2] at hk3
      all_goals
      obtain rfl := so_some h
      refine ⟨0, fun L hL => ?_⟩
      simp only [go_sem, ir14, E_laws_heldByteS_l1, R_laws_heldByteS_l1, ir14_b0, ir14_k0, ir14_o0, ir14_r0, hk1, hk2, lhk2, xhk2, hk3]
  · try simp only [go_sem, n1, n2, n3, n4] at hk1
    all_goals
    obtain rfl := so_some h
    refine ⟨0, fun L hL => ?_⟩
    simp only [go_sem, ir14, E_laws_heldByteS_l1, R_laws_heldByteS_l1, ir14_b0, ir14_k0, ir14_o0, ir14_r0, hk1]

theorem Fs_laws_heldByteS {a : List UInt8} {k : Int} {y_ : Int} (h : laws_heldByteS a k = some y_) : c_laws_heldByteS.F [.sl 1 (List.map byteAV a), .int .i64 k] = ⟨true, .int .i64 y_, [.any, .any]⟩ := by
  refine mkF_E rfl ?_
  dsimp only [laws_heldByteS] at h
  obtain ⟨y_4, hk4, h⟩ := bd_some h
  obtain ⟨Lhk4, ehk4⟩ := laws_heldByteS_l1_ex hk4
  rcases y_4 with y_4a | y_4b
  · dsimp only at h
    obtain rfl := so_some h
    refine ⟨Lhk4, fun L hL => ?_⟩
    have ehk4 := ehk4 L (by omega)
    try simp only [go_sem, E_laws_heldByteS_l1, R_laws_heldByteS_l1, ir14_k0, ir14_o0, ir14_r0] at ehk4
    simp only [go_sem, ir14, E_laws_heldByteS_l1, R_laws_heldByteS_l1, ir14_k0, ir14_o0, ir14_r0, ehk4]
  · dsimp only at h
    obtain rfl := so_some h
    refine ⟨Lhk4, fun L hL => ?_⟩
    have ehk4 := ehk4 L (by omega)
    try simp only [go_sem, E_laws_heldByteS_l1, R_laws_heldByteS_l1, ir14_k0, ir14_o0, ir14_r0] at ehk4
    simp only [go_sem, ir14, E_laws_heldByteS_l1, R_laws_heldByteS_l1, ir14_k0, ir14_o0, ir14_r0, ehk4]


def ir4_v : List Nat := [0, 2, 3, 4, 5, 6, 7, 8, 9, 10]
def ir4 : AFn := ⟨1, 10, .seq (.region false [
    ⟨.var 1, 2, none, .mov (.c (.bool false))⟩])
 (.seq (.test false [
    ⟨.push, 11, none, .mov (.v 0)⟩,
    ⟨.push, 12, none, .len true (.s 0)⟩,
    ⟨.push, 13, none, .bin false .gtr (.s 0) (.c (.int .i64 (1048576)))⟩] (.s 0)
  (.seq (.region false [
      ⟨.var 1, 2, none, .mov (.c (.bool true))⟩])
   (.ret))
  (.skip))
 (.seq (.region false [
    ⟨.push, 15, none, .mov (.v 0)⟩,
    ⟨.push, 16, none, .call 11 [(.s 0)]⟩,
    ⟨.push, 14, none, .mov (.s 0)⟩,
    ⟨.push, 17, none, .ext (.s 0) 0⟩,
    ⟨.push, 18, none, .ext (.s 1) 1⟩,
    ⟨.var 2, 3, none, .mov (.s 1)⟩,
    ⟨.var 3, 4, none, .mov (.s 0)⟩])
 (.seq (.region false [
    ⟨.push, 20, none, .mov (.v 0)⟩,
    ⟨.push, 21, none, .call 12 [(.s 0)]⟩,
    ⟨.push, 19, none, .mov (.s 0)⟩,
    ⟨.push, 22, none, .ext (.s 0) 0⟩,
    ⟨.push, 23, none, .ext (.s 1) 1⟩,
    ⟨.var 4, 5, none, .mov (.s 1)⟩,
    ⟨.var 5, 6, none, .mov (.s 0)⟩])
 (.seq (.test false [
    ⟨.push, 24, none, .mov (.v 4)⟩,
    ⟨.push, 25, none, .mov (.v 2)⟩,
    ⟨.push, 26, none, .call 10 [(.s 1), (.s 0)]⟩,
    ⟨.push, 27, none, .un .not (.s 0)⟩,
    ⟨.push, 28, none, .mov (.s 0)⟩,
    ⟨.push, 29, (some ((.s 0), false)), .mov (.v 5)⟩,
    ⟨.push, 30, (some ((.s 1), false)), .mov (.v 3)⟩,
    ⟨.push, 31, (some ((.s 2), false)), .bin true .neq (.s 1) (.s 0)⟩,
    ⟨.push, 32, none, .pick (.s 3) (.c (.bool true)) (.s 0)⟩] (.s 0)
  (.seq (.region false [
      ⟨.var 1, 2, none, .mov (.c (.bool false))⟩])
   (.ret))
  (.skip))
 (.seq (.region false [
    ⟨.var 6, 7, none, .mov (.c (.int .i64 (1)))⟩])
 (.seq (.region false [
    ⟨.push, 33, none, .mov (.v 4)⟩,
    ⟨.push, 34, none, .mov (.v 6)⟩,
    ⟨.push, 35, none, .call 13 [(.s 1), (.s 0)]⟩,
    ⟨.var 6, 7, none, .mov (.s 0)⟩])
 (.seq (.region false [
    ⟨.var 7, 8, none, .mov (.c (.int .i64 (1)))⟩])
 (.seq (.region false [
    ⟨.push, 36, none, .mov (.v 4)⟩,
    ⟨.push, 37, none, .mov (.v 7)⟩,
    ⟨.push, 38, none, .call 14 [(.s 1), (.s 0)]⟩,
    ⟨.var 7, 8, none, .mov (.s 0)⟩])
 (.seq (.test false [
    ⟨.push, 39, none, .mov (.v 7)⟩,
    ⟨.push, 40, none, .bin false .lss (.s 0) (.c (.int .i64 (0)))⟩] (.s 0)
  (.seq (.region false [
      ⟨.var 1, 2, none, .mov (.c (.bool false))⟩])
   (.ret))
  (.skip))
 (.seq (.test false [
    ⟨.push, 41, none, .mov (.v 7)⟩,
    ⟨.push, 42, none, .mov (.v 6)⟩,
    ⟨.push, 43, none, .bin false .neq (.s 1) (.s 0)⟩] (.s 0)
  (.seq (.region false [
      ⟨.var 1, 2, none, .mov (.c (.bool false))⟩])
   (.ret))
  (.skip))
 (.seq (.region false [
    ⟨.push, 45, none, .mov (.v 0)⟩,
    ⟨.push, 46, none, .call 12 [(.s 0)]⟩,
    ⟨.push, 44, none, .mov (.s 0)⟩,
    ⟨.push, 47, none, .ext (.s 0) 0⟩,
    ⟨.push, 48, none, .ext (.s 1) 1⟩,
    ⟨.var 8, 9, none, .mov (.s 1)⟩,
    ⟨.var 9, 10, none, .mov (.s 0)⟩])
 (.seq (.test false [
    ⟨.push, 49, none, .mov (.v 8)⟩,
    ⟨.push, 50, none, .mov (.v 2)⟩,
    ⟨.push, 51, none, .call 10 [(.s 1), (.s 0)]⟩,
    ⟨.push, 52, none, .un .not (.s 0)⟩,
    ⟨.push, 53, none, .mov (.s 0)⟩,
    ⟨.push, 54, (some ((.s 0), false)), .mov (.v 9)⟩,
    ⟨.push, 55, (some ((.s 1), false)), .mov (.v 3)⟩,
    ⟨.push, 56, (some ((.s 2), false)), .bin true .neq (.s 1) (.s 0)⟩,
    ⟨.push, 57, none, .pick (.s 3) (.c (.bool true)) (.s 0)⟩] (.s 0)
  (.seq (.region false [
      ⟨.var 1, 2, none, .mov (.c (.bool false))⟩])
   (.ret))
  (.skip))
 (.seq (.region false [
    ⟨.var 7, 8, none, .mov (.c (.int .i64 (1)))⟩])
 (.seq (.region false [
    ⟨.push, 58, none, .mov (.v 4)⟩,
    ⟨.push, 59, none, .mov (.v 7)⟩,
    ⟨.push, 60, none, .call 14 [(.s 1), (.s 0)]⟩,
    ⟨.var 7, 8, none, .mov (.s 0)⟩])
 (.seq (.test false [
    ⟨.push, 61, none, .mov (.v 7)⟩,
    ⟨.push, 62, none, .bin false .lss (.s 0) (.c (.int .i64 (0)))⟩] (.s 0)
  (.seq (.region false [
      ⟨.var 1, 2, none, .mov (.c (.bool false))⟩])
   (.ret))
  (.skip))
 (.seq (.test false [
    ⟨.push, 63, none, .mov (.v 7)⟩,
    ⟨.push, 64, none, .mov (.v 6)⟩,
    ⟨.push, 65, none, .bin false .neq (.s 1) (.s 0)⟩] (.s 0)
  (.seq (.region false [
      ⟨.var 1, 2, none, .mov (.c (.bool false))⟩])
   (.ret))
  (.skip))
 (.seq (.region false [
    ⟨.var 1, 2, none, .mov (.c (.bool true))⟩])
 (.ret)))))))))))))))))), [.t 1]⟩
noncomputable def t_laws_FnExactBytesOfHex : List (Nat × Ctr) := [(11, c_spec_BytesOfHex), (12, c_impl_BytesOfHex), (10, c_laws_eqByteS), (13, c_laws_markByteS), (14, c_laws_heldByteS)]
theorem lk_laws_FnExactBytesOfHex_11 : look t_laws_FnExactBytesOfHex 11 = some c_spec_BytesOfHex := rfl
theorem lk_laws_FnExactBytesOfHex_12 : look t_laws_FnExactBytesOfHex 12 = some c_impl_BytesOfHex := rfl
theorem lk_laws_FnExactBytesOfHex_10 : look t_laws_FnExactBytesOfHex 10 = some c_laws_eqByteS := rfl
theorem lk_laws_FnExactBytesOfHex_13 : look t_laws_FnExactBytesOfHex 13 = some c_laws_markByteS := rfl
theorem lk_laws_FnExactBytesOfHex_14 : look t_laws_FnExactBytesOfHex 14 = some c_laws_heldByteS := rfl
noncomputable def c_laws_FnExactBytesOfHex : Ctr := mkF t_laws_FnExactBytesOfHex ir4 [.bor]
theorem s_laws_FnExactBytesOfHex : Sound Try.prog 4 c_laws_FnExactBytesOfHex := mkF_sound _ rfl (snd_cons s_spec_BytesOfHex (snd_cons s_impl_BytesOfHex (snd_cons s_laws_eqByteS (snd_cons s_laws_markByteS (snd_cons s_laws_heldByteS snd_nil))))) (by kernel_rfl : chkFn Try.prog 4 ir4 ir4_v = true)
theorem M_laws_FnExactBytesOfHex : c_laws_FnExactBytesOfHex.modes = [.bor] := rfl
theorem Fl_laws_FnExactBytesOfHex : c_laws_FnExactBytesOfHex.flat = true := rfl
attribute [go_sem] M_laws_FnExactBytesOfHex Fl_laws_FnExactBytesOfHex
attribute [go_sem] lk_laws_FnExactBytesOfHex_11 lk_laws_FnExactBytesOfHex_12 lk_laws_FnExactBytesOfHex_10 lk_laws_FnExactBytesOfHex_13 lk_laws_FnExactBytesOfHex_14
theorem Fs_laws_FnExactBytesOfHex {aS : List UInt8} {y_ : Bool} (h : laws_FnExactBytesOfHex aS = some y_) : c_laws_FnExactBytesOfHex.F [.str aS] = ⟨true, .bool y_, [.any]⟩ := by
  refine mkF_E rfl ?_
  dsimp only [laws_FnExactBytesOfHex] at h
  rcases it_some h with ⟨hk1, h⟩ | ⟨hk1, h⟩
  · try simp only [go_sem, n1, n2, n3, n4] at hk1
    all_goals
    obtain rfl := so_some h
    refine ⟨0, fun L hL => ?_⟩
    simp only [go_sem, ir4, hk1]
  · try simp only [go_sem, n1, n2, n3, n4] at hk1
    all_goals
    obtain ⟨y_2, hk2, h⟩ := bd_some h
    have fhk2 := Fs_spec_BytesOfHex hk2
    try simp only [go_sem] at fhk2
    obtain ⟨y_3, hk3, h⟩ := bd_some h
    have fhk3 := Fs_impl_BytesOfHex hk3
    try simp only [go_sem] at fhk3
    obtain ⟨y_4, hk4, h⟩ := bd_some h
    have fhk4 := Fs_laws_eqByteS hk4
    try simp only [go_sem] at fhk4
    rcases it_some h with ⟨hk5, h⟩ | ⟨hk5, h⟩
    · try simp only [go_sem, n1, n2, n3, n4, hk1] at hk5
      all_goals
      obtain rfl := so_some h
      refine ⟨0, fun L hL => ?_⟩
      simp only [go_sem, ir4, hk1, fhk2, fhk3, fhk4, hk5]
    · try simp only [go_sem, n1, n2, n3, n4, hk1] at hk5
      all_goals
      obtain ⟨y_6, hk6, h⟩ := bd_some h
      have fhk6 := Fs_laws_markByteS hk6
      try simp only [go_sem] at fhk6
      obtain ⟨y_7, hk7, h⟩ := bd_some h
      have fhk7 := Fs_laws_heldByteS hk7
      try simp only [go_sem] at fhk7
      rcases it_some h with ⟨hk8, h⟩ | ⟨hk8, h⟩
      · try simp only [go_sem, n1, n2, n3, n4, hk1, hk5] at hk8
        all_goals
        obtain rfl := so_some h
        refine ⟨0, fun L hL => ?_⟩
        simp only [go_sem, ir4, hk1, fhk2, fhk3, fhk4, hk5, fhk6, fhk7, hk8]
      · try simp only [go_sem, n1, n2, n3, n4, hk1, hk5] at hk8
        all_goals
        rcases it_some h with ⟨hk9, h⟩ | ⟨hk9, h⟩
        · try simp only [go_sem, n1, n2, n3, n4, hk1, hk5, hk8] at hk9
          all_goals
          obtain rfl := so_some h
          refine ⟨0, fun L hL => ?_⟩
          simp only [go_sem, ir4, hk1, fhk2, fhk3, fhk4, hk5, fhk6, fhk7, hk8, hk9]
        · try simp only [go_sem, n1, n2, n3, n4, hk1, hk5, hk8] at hk9
          all_goals
          obtain rfl := so_some h
          refine ⟨0, fun L hL => ?_⟩
          simp only [go_sem, ir4, hk1, fhk2, fhk3, fhk4, hk5, fhk6, fhk7, hk8, hk9]


end Go.Proofs.Ytndkifgpbmaicaa
