/- Codes and contracts of the functions that AE reaches, and that their typed forms say what they do. No condition. -/
import Derived.Test.YtgbopjgnggdhkabDoorEngLR
import Derived.Test.YtgbopjgnggdhkabDoorRows
import Derived.WalkKit
namespace Go.Proofs.YtgbopjgnggdhkabDoor
open Go Go.RowKit
set_option linter.unusedVariables false
set_option linter.unusedSimpArgs false
set_option maxRecDepth 10000

def ir23_v : List Nat := [0, 2, 3, 4]
def ir23 : AFn := ⟨1, 4, .seq (.region false [
    ⟨.var 1, 2, none, .mov (.c (.cv (.pointer none)))⟩,
    ⟨.var 2, 3, none, .mov (.c (.int .i64 (0)))⟩])
 (.seq (.test false [
    ⟨.push, 5, none, .mov (.v 0)⟩,
    ⟨.push, 6, none, .len true (.s 0)⟩,
    ⟨.push, 7, none, .bin false .gtr (.s 0) (.c (.int .i64 (4000)))⟩] (.s 0)
  (.seq (.region false [
      ⟨.push, 8, none, .build [.str [], .int .i64 (0), .int .i64 (0), .sl 3 []] []⟩,
      ⟨.push, 9, none, .box (.s 0)⟩,
      ⟨.var 1, 2, none, .mov (.s 0)⟩,
      ⟨.var 2, 3, none, .mov (.c (.int .i64 (5)))⟩])
   (.ret))
  (.skip))
 (.seq (.region false [
    ⟨.push, 10, none, .mov (.v 0)⟩,
    ⟨.push, 11, none, .call 44 [(.s 0)]⟩,
    ⟨.var 3, 4, none, .mov (.s 0)⟩])
 (.seq (.test false [
    ⟨.push, 12, none, .mov (.v 3)⟩,
    ⟨.push, 13, none, .nilck (.s 0)⟩,
    ⟨.push, 14, none, .fldAddr 1 (.s 0)⟩,
    ⟨.push, 15, none, .load false 1 (.s 0)⟩,
    ⟨.push, 16, none, .mov (.v 0)⟩,
    ⟨.push, 17, none, .len true (.s 0)⟩,
    ⟨.push, 18, none, .bin false .neq (.s 2) (.s 0)⟩] (.s 0)
  (.seq (.region false [
      ⟨.push, 19, none, .mov (.v 3)⟩,
      ⟨.var 1, 2, none, .mov (.s 0)⟩,
      ⟨.var 2, 3, none, .mov (.c (.int .i64 (8)))⟩])
   (.ret))
  (.skip))
 (.seq (.region false [
    ⟨.push, 20, none, .mov (.v 3)⟩,
    ⟨.var 1, 2, none, .mov (.s 0)⟩,
    ⟨.var 2, 3, none, .mov (.c (.int .i64 (0)))⟩])
 (.ret))))), [.t 1, .t 2]⟩
noncomputable def t_spec_l27Code : List (Nat × Ctr) := [(44, c_spec_l27Read)]
theorem lk_spec_l27Code_44 : look t_spec_l27Code 44 = some c_spec_l27Read := rfl
noncomputable def c_spec_l27Code : Ctr := mkN t_spec_l27Code ir23 [.bor]
theorem s_spec_l27Code : Sound Tryd.prog 23 c_spec_l27Code := mkN_sound _ (snd_cons s_spec_l27Read snd_nil) (by kernel_rfl : chkFn Tryd.prog 23 ir23 ir23_v = true)
theorem M_spec_l27Code : c_spec_l27Code.modes = [.bor] := rfl
theorem Fl_spec_l27Code : c_spec_l27Code.flat = false := rfl
attribute [go_sem] M_spec_l27Code Fl_spec_l27Code
attribute [go_sem] lk_spec_l27Code_44
theorem Fs_spec_l27Code {s_ : List UInt8} {y_ : L27R × Int} (h : spec_l27Code s_ = some y_) : c_spec_l27Code.F [.str s_] = ⟨true, .tup [.mem 4 [L27R_av y_.1], .int .i64 y_.2], [.any]⟩ := by
  refine mkN_E ?_
  dsimp only [spec_l27Code] at h
  rcases it_some h with ⟨hk1, h⟩ | ⟨hk1, h⟩
  · try simp only [go_sem, n1, n2, n3, n4] at hk1
    all_goals
    obtain rfl := so_some h
    refine ⟨0, fun L hL => ?_⟩
    simp only [go_sem, ir23, hk1]
  · try simp only [go_sem, n1, n2, n3, n4] at hk1
    all_goals
    obtain ⟨y_2, hk2, h⟩ := bd_some h
    have fhk2 := Fs_spec_l27Read hk2
    try simp only [go_sem, hk1] at fhk2
    rcases it_some h with ⟨hk3, h⟩ | ⟨hk3, h⟩
    · try simp only [go_sem, n1, n2, n3, n4, hk1] at hk3
      all_goals
      obtain rfl := so_some h
      refine ⟨0, fun L hL => ?_⟩
      simp only [go_sem, ir23, hk1, fhk2, hk3]
    · try simp only [go_sem, n1, n2, n3, n4, hk1] at hk3
      all_goals
      obtain rfl := so_some h
      refine ⟨0, fun L hL => ?_⟩
      simp only [go_sem, ir23, hk1, fhk2, hk3]


def ir8_v : List Nat := [0, 1, 3, 4, 5, 6, 7, 8]
def ir8 : AFn := ⟨2, 8, .seq (.region false [
    ⟨.var 2, 3, none, .box (.v 1)⟩,
    ⟨.var 3, 4, none, .mov (.c (.str []))⟩,
    ⟨.var 4, 5, none, .mov (.c (.int .i64 (0)))⟩])
 (.seq (.region false [
    ⟨.push, 10, none, .mov (.v 0)⟩,
    ⟨.push, 11, none, .call 23 [(.s 0)]⟩,
    ⟨.push, 9, none, .mov (.s 0)⟩,
    ⟨.push, 12, none, .ext (.s 0) 0⟩,
    ⟨.push, 13, none, .ext (.s 1) 1⟩,
    ⟨.var 5, 6, none, .mov (.s 1)⟩,
    ⟨.var 6, 7, none, .mov (.s 0)⟩])
 (.seq (.test false [
    ⟨.push, 14, none, .mov (.v 6)⟩,
    ⟨.push, 15, none, .bin false .neq (.s 0) (.c (.int .i64 (0)))⟩] (.s 0)
  (.seq (.region false [
      ⟨.push, 16, none, .mov (.v 6)⟩,
      ⟨.var 3, 4, none, .mov (.c (.str []))⟩,
      ⟨.var 4, 5, none, .mov (.s 0)⟩])
   (.ret))
  (.skip))
 (.seq (.test false [
    ⟨.push, 17, none, .call 24 [(.v 2)]⟩,
    ⟨.push, 18, none, .un .not (.s 0)⟩] (.s 0)
  (.seq (.region false [
      ⟨.var 3, 4, none, .mov (.c (.str []))⟩,
      ⟨.var 4, 5, none, .mov (.c (.int .i64 (7)))⟩])
   (.ret))
  (.skip))
 (.seq (.anyo 5 [
    ⟨.slot 0, 19, none, .fldAddr 0 (.v 2)⟩,
    ⟨.slot 1, 20, none, .load false 1 (.s 0)⟩,
    ⟨.slot 2, 21, none, .mov (.v 5)⟩,
    ⟨.slot 3, 22, none, .callp 25 [(.s 2)]⟩,
    ⟨.slot 4, 23, none, .bin false .lss (.s 1) (.s 3)⟩] [] (.cond (.s 4)
  (.seq (.region false [
      ⟨.var 3, 4, none, .mov (.c (.str []))⟩,
      ⟨.var 4, 5, none, .mov (.c (.int .i64 (6)))⟩])
   (.ret))
  (.skip)))
 (.seq (.anyo 9 [
    ⟨.slot 0, 24, none, .mov (.v 0)⟩,
    ⟨.slot 1, 25, none, .mov (.v 5)⟩,
    ⟨.slot 2, 26, none, .nilck (.s 1)⟩,
    ⟨.slot 3, 27, none, .fldAddr 2 (.s 2)⟩,
    ⟨.slot 4, 28, none, .load false 1 (.s 3)⟩,
    ⟨.slot 5, 29, none, .callp 28 [(.v 2)]⟩,
    ⟨.slot 6, 30, none, .callp 27 [(.s 4), (.s 5)]⟩,
    ⟨.slot 7, 31, none, .callp 26 [(.s 6), (.v 2)]⟩,
    ⟨.slot 8, 32, none, .bin false .add (.s 0) (.s 7)⟩,
    ⟨.var 7, 8, none, .mov (.s 8)⟩] [] .skip)
 (.seq (.test false [
    ⟨.push, 33, none, .mov (.v 7)⟩,
    ⟨.push, 34, none, .len true (.s 0)⟩,
    ⟨.push, 35, none, .bin false .gtr (.s 0) (.c (.int .i64 (4000)))⟩] (.s 0)
  (.seq (.region false [
      ⟨.var 3, 4, none, .mov (.c (.str []))⟩,
      ⟨.var 4, 5, none, .mov (.c (.int .i64 (5)))⟩])
   (.ret))
  (.skip))
 (.seq (.region false [
    ⟨.push, 36, none, .mov (.v 7)⟩,
    ⟨.var 3, 4, none, .mov (.s 0)⟩,
    ⟨.var 4, 5, none, .mov (.c (.int .i64 (0)))⟩])
 (.ret)))))))), [.t 3, .t 4]⟩
noncomputable def t_spec_AddEntry : List (Nat × Ctr) := [(23, c_spec_l27Code), (24, c_spec_l27Ok), (25, c_spec_l27R_day), (28, c_spec_l27Words), (27, c_spec_l27Stamp), (26, c_spec_l27Line)]
theorem lk_spec_AddEntry_23 : look t_spec_AddEntry 23 = some c_spec_l27Code := rfl
theorem lk_spec_AddEntry_24 : look t_spec_AddEntry 24 = some c_spec_l27Ok := rfl
theorem lk_spec_AddEntry_25 : look t_spec_AddEntry 25 = some c_spec_l27R_day := rfl
theorem lk_spec_AddEntry_28 : look t_spec_AddEntry 28 = some c_spec_l27Words := rfl
theorem lk_spec_AddEntry_27 : look t_spec_AddEntry 27 = some c_spec_l27Stamp := rfl
theorem lk_spec_AddEntry_26 : look t_spec_AddEntry 26 = some c_spec_l27Line := rfl
noncomputable def c_spec_AddEntry : Ctr := mkF t_spec_AddEntry ir8 [.bor, .bor]
theorem s_spec_AddEntry : Sound Tryd.prog 8 c_spec_AddEntry := mkF_sound _ rfl (snd_cons s_spec_l27Code (snd_cons s_spec_l27Ok (snd_cons s_spec_l27R_day (snd_cons s_spec_l27Words (snd_cons s_spec_l27Stamp (snd_cons s_spec_l27Line snd_nil)))))) (by kernel_rfl : chkFn Tryd.prog 8 ir8 ir8_v = true)
theorem M_spec_AddEntry : c_spec_AddEntry.modes = [.bor, .bor] := rfl
theorem Fl_spec_AddEntry : c_spec_AddEntry.flat = true := rfl
attribute [go_sem] M_spec_AddEntry Fl_spec_AddEntry
attribute [go_sem] lk_spec_AddEntry_23 lk_spec_AddEntry_24 lk_spec_AddEntry_25 lk_spec_AddEntry_28 lk_spec_AddEntry_27 lk_spec_AddEntry_26
theorem Fs_spec_AddEntry {log : List UInt8} {e_ : Entry} {y_ : (List UInt8) × Int} (h : spec_AddEntry log e_ = some y_) : c_spec_AddEntry.F [.str log, Entry_av e_] = ⟨true, .tup [.str y_.1, .int .i64 y_.2], [.any, .any]⟩ := by
  refine mkF_E rfl ?_
  dsimp only [spec_AddEntry] at h
  obtain ⟨y_1, hk1, h⟩ := bd_some h
  have fhk1 := Fs_spec_l27Code hk1
  try simp only [go_sem] at fhk1
  rcases it_some h with ⟨hk2, h⟩ | ⟨hk2, h⟩
  · try simp only [go_sem, n1, n2, n3, n4] at hk2
    all_goals
    obtain rfl := so_some h
    refine ⟨0, fun L hL => ?_⟩
    simp only [go_sem, ir8, fhk1, hk2]
  · try simp only [go_sem, n1, n2, n3, n4] at hk2
    all_goals
    obtain ⟨y_3, hk3, h⟩ := bd_some h
    have fhk3 := Fs_spec_l27Ok hk3
    try simp only [go_sem, hk2] at fhk3
    rcases it_some h with ⟨hk4, h⟩ | ⟨hk4, h⟩
    · try simp only [go_sem, n1, n2, n3, n4, hk2] at hk4
      all_goals
      obtain rfl := so_some h
      refine ⟨0, fun L hL => ?_⟩
      simp only [go_sem, ir8, fhk1, hk2, fhk3, hk4]
    · try simp only [go_sem, n1, n2, n3, n4, hk2] at hk4
      all_goals
      obtain ⟨y_5, hk5, h⟩ := bd_some h
      have fhk5 := Fs_spec_l27R_day hk5
      try simp only [go_sem, hk2, hk4] at fhk5
      rcases it_some h with ⟨hk6, h⟩ | ⟨hk6, h⟩
      · try simp only [go_sem, n1, n2, n3, n4, hk2, hk4] at hk6
        all_goals
        obtain rfl := so_some h
        refine ⟨0, fun L hL => ?_⟩
        simp only [go_sem, ir8, fhk1, hk2, fhk3, hk4, fhk5, hk6]
      · try simp only [go_sem, n1, n2, n3, n4, hk2, hk4] at hk6
        all_goals
        obtain ⟨y_7, hk7, h⟩ := bd_some h
        have fhk7 := Fs_spec_l27Words hk7
        try simp only [go_sem, hk2, hk4, hk6] at fhk7
        obtain ⟨y_8, hk8, h⟩ := bd_some h
        have fhk8 := Fs_spec_l27Stamp hk8
        try simp only [go_sem, hk2, hk4, hk6] at fhk8
        obtain ⟨y_9, hk9, h⟩ := bd_some h
        have fhk9 := Fs_spec_l27Line hk9
        try simp only [go_sem, hk2, hk4, hk6] at fhk9
        obtain ⟨hk10, h⟩ := ck_some h
        try simp only [go_sem, n1, n2, n3, n4, hk2, hk4, hk6] at hk10
        all_goals
        rcases it_some h with ⟨hk11, h⟩ | ⟨hk11, h⟩
        · try simp only [go_sem, n1, n2, n3, n4, hk2, hk4, hk6, hk10] at hk11
          all_goals
          obtain rfl := so_some h
          refine ⟨0, fun L hL => ?_⟩
          simp only [go_sem, ir8, fhk1, hk2, fhk3, hk4, fhk5, hk6, fhk7, fhk8, fhk9, hk10, hk11]
        · try simp only [go_sem, n1, n2, n3, n4, hk2, hk4, hk6, hk10] at hk11
          all_goals
          obtain rfl := so_some h
          refine ⟨0, fun L hL => ?_⟩
          simp only [go_sem, ir8, fhk1, hk2, fhk3, hk4, fhk5, hk6, fhk7, fhk8, fhk9, hk10, hk11]


theorem s_hFmt : Sound Tryd.prog 61 c_hFmt := hFmt_is

def ir55_v : List Nat := [0, 1, 4]
def ir55 : AFn := ⟨2, 3, .seq (.region false [
    ⟨.var 2, 4, none, .mov (.c (.str []))⟩])
 (.seq (.region false [
    ⟨.push, 5, none, .mov (.v 0)⟩,
    ⟨.push, 6, none, .mov (.v 1)⟩,
    ⟨.push, 7, none, .call 61 [(.s 1), (.s 0)]⟩,
    ⟨.var 2, 4, none, .mov (.s 0)⟩])
 (.ret)), [.t 2]⟩
noncomputable def t_strconv_FormatInt : List (Nat × Ctr) := [(61, c_hFmt)]
theorem lk_strconv_FormatInt_61 : look t_strconv_FormatInt 61 = some c_hFmt := rfl
noncomputable def c_strconv_FormatInt : Ctr := mkF t_strconv_FormatInt ir55 [.bor, .bor]
theorem s_strconv_FormatInt : Sound Tryd.prog 55 c_strconv_FormatInt := mkF_sound _ rfl (snd_cons s_hFmt snd_nil) (by kernel_rfl : chkFn Tryd.prog 55 ir55 ir55_v = true)
theorem M_strconv_FormatInt : c_strconv_FormatInt.modes = [.bor, .bor] := rfl
theorem Fl_strconv_FormatInt : c_strconv_FormatInt.flat = true := rfl
attribute [go_sem] M_strconv_FormatInt Fl_strconv_FormatInt
attribute [go_sem] lk_strconv_FormatInt_61
theorem Fs_strconv_FormatInt {i : Int} {base : Int} {y_ : (List UInt8)} (h : strconv_FormatInt i base = some y_) : c_strconv_FormatInt.F [.int .i64 i, .int .i64 base] = ⟨true, .str y_, [.any, .any]⟩ := by
  refine mkF_E rfl ?_
  dsimp only [strconv_FormatInt] at h
  obtain ⟨y_1, hk1, h⟩ := bd_some h
  have fhk1 := Fs_hFmt hk1
  try simp only [go_sem] at fhk1
  obtain rfl := so_some h
  refine ⟨0, fun L hL => ?_⟩
  simp only [go_sem, ir55, fhk1]


def ir49_v : List Nat := [0, 2]
def ir49 : AFn := ⟨1, 2, .seq (.region false [
    ⟨.var 1, 2, none, .mov (.c (.str []))⟩])
 (.seq (.region false [
    ⟨.push, 3, none, .mov (.v 0)⟩,
    ⟨.push, 4, none, .call 55 [(.s 0), (.c (.int .i64 (10)))]⟩,
    ⟨.var 1, 2, none, .mov (.s 0)⟩])
 (.ret)), [.t 1]⟩
noncomputable def t_impl_Decimal : List (Nat × Ctr) := [(55, c_strconv_FormatInt)]
theorem lk_impl_Decimal_55 : look t_impl_Decimal 55 = some c_strconv_FormatInt := rfl
noncomputable def c_impl_Decimal : Ctr := mkF t_impl_Decimal ir49 [.bor]
theorem s_impl_Decimal : Sound Tryd.prog 49 c_impl_Decimal := mkF_sound _ rfl (snd_cons s_strconv_FormatInt snd_nil) (by kernel_rfl : chkFn Tryd.prog 49 ir49 ir49_v = true)
theorem M_impl_Decimal : c_impl_Decimal.modes = [.bor] := rfl
theorem Fl_impl_Decimal : c_impl_Decimal.flat = true := rfl
attribute [go_sem] M_impl_Decimal Fl_impl_Decimal
attribute [go_sem] lk_impl_Decimal_55
theorem Fs_impl_Decimal {n : Int} {y_ : (List UInt8)} (h : impl_Decimal n = some y_) : c_impl_Decimal.F [.int .i64 n] = ⟨true, .str y_, [.any]⟩ := by
  refine mkF_E rfl ?_
  dsimp only [impl_Decimal] at h
  obtain ⟨y_1, hk1, h⟩ := bd_some h
  have fhk1 := Fs_strconv_FormatInt hk1
  try simp only [go_sem] at fhk1
  obtain rfl := so_some h
  refine ⟨0, fun L hL => ?_⟩
  simp only [go_sem, ir49, fhk1]


def ir48_v : List Nat := [0, 1, 2]
def ir48 : AFn := ⟨1, 3, .seq (.region false [
    ⟨.var 1, 1, none, .box (.v 0)⟩,
    ⟨.var 2, 2, none, .mov (.c (.str []))⟩])
 (.seq (.anyo 12 [
    ⟨.slot 0, 3, none, .fldAddr 0 (.v 1)⟩,
    ⟨.slot 1, 4, none, .load false 1 (.s 0)⟩,
    ⟨.slot 2, 5, none, .callp 49 [(.s 1)]⟩,
    ⟨.slot 3, 6, none, .bin false .add (.s 2) (.c (.str [32]))⟩,
    ⟨.slot 4, 7, none, .fldAddr 1 (.v 1)⟩,
    ⟨.slot 5, 8, none, .load false 1 (.s 4)⟩,
    ⟨.slot 6, 9, none, .bin false .add (.s 3) (.s 5)⟩,
    ⟨.slot 7, 10, none, .bin false .add (.s 6) (.c (.str [32]))⟩,
    ⟨.slot 8, 11, none, .fldAddr 2 (.v 1)⟩,
    ⟨.slot 9, 12, none, .load false 1 (.s 8)⟩,
    ⟨.slot 10, 13, none, .callp 49 [(.s 9)]⟩,
    ⟨.slot 11, 14, none, .bin false .add (.s 7) (.s 10)⟩,
    ⟨.var 2, 2, none, .mov (.s 11)⟩] [] .skip)
 (.ret)), [.t 2]⟩
noncomputable def t_impl_Entry_words : List (Nat × Ctr) := [(49, c_impl_Decimal)]
theorem lk_impl_Entry_words_49 : look t_impl_Entry_words 49 = some c_impl_Decimal := rfl
noncomputable def c_impl_Entry_words : Ctr := mkF t_impl_Entry_words ir48 [.bor]
theorem s_impl_Entry_words : Sound Tryd.prog 48 c_impl_Entry_words := mkF_sound _ rfl (snd_cons s_impl_Decimal snd_nil) (by kernel_rfl : chkFn Tryd.prog 48 ir48 ir48_v = true)
theorem M_impl_Entry_words : c_impl_Entry_words.modes = [.bor] := rfl
theorem Fl_impl_Entry_words : c_impl_Entry_words.flat = true := rfl
attribute [go_sem] M_impl_Entry_words Fl_impl_Entry_words
attribute [go_sem] lk_impl_Entry_words_49
theorem Fs_impl_Entry_words {e_ : Entry} {y_ : (List UInt8)} (h : impl_Entry_words e_ = some y_) : c_impl_Entry_words.F [Entry_av e_] = ⟨true, .str y_, [.any]⟩ := by
  refine mkF_E rfl ?_
  dsimp only [impl_Entry_words] at h
  obtain ⟨y_1, hk1, h⟩ := bd_some h
  have fhk1 := Fs_impl_Decimal hk1
  try simp only [go_sem] at fhk1
  obtain ⟨hk2, h⟩ := ck_some h
  try simp only [go_sem, n1, n2, n3, n4] at hk2
  all_goals
  obtain ⟨hk3, h⟩ := ck_some h
  try simp only [go_sem, n1, n2, n3, n4, hk2] at hk3
  all_goals
  obtain ⟨hk4, h⟩ := ck_some h
  try simp only [go_sem, n1, n2, n3, n4, hk2, hk3] at hk4
  all_goals
  obtain ⟨y_5, hk5, h⟩ := bd_some h
  have fhk5 := Fs_impl_Decimal hk5
  try simp only [go_sem, hk2, hk3, hk4] at fhk5
  obtain ⟨hk6, h⟩ := ck_some h
  try simp only [go_sem, n1, n2, n3, n4, hk2, hk3, hk4] at hk6
  all_goals
  obtain rfl := so_some h
  refine ⟨0, fun L hL => ?_⟩
  simp only [go_sem, ir48, fhk1, hk2, hk3, hk4, fhk5, hk6]


def ir32_b0 : IR := .seq (.region false [
    ⟨.var 9, 16, none, .bin false .lss (.v 8) (.v 7)⟩])
 (.seq (.cond (.v 9) (.skip)
  (.exit 0))
 (.seq (.block 1 (.seq (.region false [
      ⟨.push, 17, none, .mov (.v 8)⟩,
      ⟨.var 6, 7, none, .mov (.s 0)⟩])
   (.region false [
     ⟨.push, 18, none, .mov (.v 4)⟩,
     ⟨.push, 19, none, .bin false .mul (.c (.int .i64 (31))) (.s 0)⟩,
     ⟨.push, 20, none, .mov (.v 5)⟩,
     ⟨.push, 21, none, .mov (.v 6)⟩,
     ⟨.push, 22, none, .ixStr (.s 1) (.s 0)⟩,
     ⟨.push, 23, none, .conv .i64 (.s 0)⟩,
     ⟨.push, 24, none, .bin false .add (.s 4) (.s 0)⟩,
     ⟨.push, 25, none, .bin false .rem (.s 0) (.c (.int .i64 (65521)))⟩,
     ⟨.var 4, 5, none, .mov (.s 0)⟩])))
 (.region false [
   ⟨.push, 26, none, .bin false .add (.v 8) (.c (.int .i64 (1)))⟩,
   ⟨.var 8, 15, none, .mov (.s 0)⟩])))
def ir32_k0 : List Bool := [false, false, false, false, true, true, false, true, true, false]
def ir32_o0 : List Bool := [false, false, false, false, true, false, false, false, false, false]
def ir32_r0 : List Bool := [false, false, false, true, false, false, false, false, false, false]
def ir32_v : List Nat := [0, 1, 3, 4, 5, 6, 7, 14, 15, 16]
def ir32 : AFn := ⟨2, 10, .seq (.region false [
    ⟨.var 2, 3, none, .box (.v 1)⟩,
    ⟨.var 3, 4, none, .mov (.c (.int .i64 (0)))⟩])
 (.seq (.region false [
    ⟨.push, 8, none, .mov (.v 0)⟩,
    ⟨.push, 9, none, .bin false .add (.s 0) (.c (.int .i64 (23)))⟩,
    ⟨.push, 10, none, .bin false .rem (.s 0) (.c (.int .i64 (65521)))⟩,
    ⟨.push, 11, none, .load true 3 (.v 2)⟩,
    ⟨.push, 12, none, .call 48 [(.s 0)]⟩,
    ⟨.var 4, 5, none, .mov (.s 2)⟩,
    ⟨.var 5, 6, none, .mov (.s 0)⟩])
 (.seq (.seq (.region false [
     ⟨.push, 13, none, .mov (.v 5)⟩,
     ⟨.var 7, 14, none, .len true (.s 0)⟩,
     ⟨.var 8, 15, none, .mov (.c (.int .i64 (0)))⟩])
  (.block 0 (.loop ir32_k0 ir32_o0 ir32_r0 ir32_b0)))
 (.seq (.region false [
    ⟨.push, 27, none, .mov (.v 4)⟩,
    ⟨.var 3, 4, none, .mov (.s 0)⟩])
 (.ret)))), [.t 3]⟩
noncomputable def t_impl_stamp : List (Nat × Ctr) := [(48, c_impl_Entry_words)]
theorem lk_impl_stamp_48 : look t_impl_stamp 48 = some c_impl_Entry_words := rfl
noncomputable def c_impl_stamp : Ctr := mkF t_impl_stamp ir32 [.bor, .bor]
theorem s_impl_stamp : Sound Tryd.prog 32 c_impl_stamp := mkF_sound _ rfl (snd_cons s_impl_Entry_words snd_nil) (by kernel_rfl : chkFn Tryd.prog 32 ir32 ir32_v = true)
theorem M_impl_stamp : c_impl_stamp.modes = [.bor, .bor] := rfl
theorem Fl_impl_stamp : c_impl_stamp.flat = true := rfl
attribute [go_sem] M_impl_stamp Fl_impl_stamp
attribute [go_sem] lk_impl_stamp_48
def E_impl_stamp_l1 (words : List UInt8) (t14 : Int) : (Int × Int) → St
  | (sum, t15) => ⟨[.any, .any, .any, .any, .int .i64 sum, .str words, .any, .int .i64 t14, .int .i64 t15, .any], [], [], true⟩
def R_impl_stamp_l1 (words : List UInt8) (t14 : Int) (y : Int) : Res := (.exit 0, ⟨[.any, .any, .any, .any, .int .i64 y, .any, .any, .any, .any, .any], [], [], true⟩)
theorem impl_stamp_l1_ex {words : List UInt8} {t14 : Int} {sgm_ : Int × Int} {rho_ : Int} (h : whileE (impl_stamp_l1 words t14) sgm_ = some rho_) : ∃ L0, ∀ L, L0 ≤ L → iter (exec (look t_impl_stamp) L ir32_b0) ir32_k0 ir32_o0 ir32_r0 L (E_impl_stamp_l1 words t14 sgm_) = R_impl_stamp_l1 words t14 rho_ := by
  refine loop_ex (E := E_impl_stamp_l1 words t14) (R := R_impl_stamp_l1 words t14) (fun y => by first | (intro c; cases c) | (rcases y with y | y <;> (intro c; cases c)) | (rcases y with y | y | y <;> (intro c; cases c))) ?_ h
  clear h
  rintro ⟨sum, t15⟩ o_ h
  dsimp only [impl_stamp_l1] at h
  rcases it_some h with ⟨hk3, h⟩ | ⟨hk3, h⟩
  · try simp only [go_sem, n1, n2, n3, n4] at hk3
    all_goals
    obtain ⟨hk4, h⟩ := ck_some h
    try simp only [go_sem, n1, n2, n3, n4, hk3] at hk4
    all_goals
    obtain ⟨hk5, h⟩ := ck_some h
    try simp only [go_sem, n1, n2, n3, n4, hk3, hk4] at hk5
    all_goals
    obtain rfl := so_some h
    refine ⟨0, fun L hL => ?_⟩
    simp only [go_sem, ir32, E_impl_stamp_l1, R_impl_stamp_l1, ir32_b0, ir32_k0, ir32_o0, ir32_r0, hk3, hk4, hk5]
  · try simp only [go_sem, n1, n2, n3, n4] at hk3
    all_goals
    obtain rfl := so_some h
    refine ⟨0, fun L hL => ?_⟩
    simp only [go_sem, ir32, E_impl_stamp_l1, R_impl_stamp_l1, ir32_b0, ir32_k0, ir32_o0, ir32_r0, hk3]

theorem Fs_impl_stamp {before : Int} {e_ : Entry} {y_ : Int} (h : impl_stamp before e_ = some y_) : c_impl_stamp.F [.int .i64 before, Entry_av e_] = ⟨true, .int .i64 y_, [.any, .any]⟩ := by
  refine mkF_E rfl ?_
  dsimp only [impl_stamp] at h
  obtain ⟨hk1, h⟩ := ck_some h
  try simp only [go_sem, n1, n2, n3, n4] at hk1
  all_goals
  obtain ⟨y_2, hk2, h⟩ := bd_some h
  have fhk2 := Fs_impl_Entry_words hk2
  try simp only [go_sem, hk1] at fhk2
  obtain ⟨y_6, hk6, h⟩ := bd_some h
  obtain ⟨Lhk6, ehk6⟩ := impl_stamp_l1_ex hk6
  obtain rfl := so_some h
  refine ⟨Lhk6, fun L hL => ?_⟩
  have ehk6 := ehk6 L (by omega)
  try simp only [go_sem, E_impl_stamp_l1, R_impl_stamp_l1, ir32_k0, ir32_o0, ir32_r0, hk1] at ehk6
  simp only [go_sem, ir32, E_impl_stamp_l1, R_impl_stamp_l1, ir32_k0, ir32_o0, ir32_r0, hk1, fhk2, ehk6]


def ir31_v : List Nat := [0, 1, 2, 4]
def ir31 : AFn := ⟨2, 4, .seq (.region false [
    ⟨.var 2, 2, none, .box (.v 0)⟩,
    ⟨.var 3, 4, none, .mov (.c (.str []))⟩])
 (.seq (.region false [
    ⟨.push, 5, none, .load true 3 (.v 2)⟩,
    ⟨.push, 6, none, .call 48 [(.s 0)]⟩,
    ⟨.push, 7, none, .bin false .add (.s 0) (.c (.str [32]))⟩,
    ⟨.push, 8, none, .mov (.v 1)⟩,
    ⟨.push, 9, none, .call 49 [(.s 0)]⟩,
    ⟨.push, 10, none, .bin false .add (.s 2) (.s 0)⟩,
    ⟨.push, 11, none, .bin false .add (.s 0) (.c (.str [10]))⟩,
    ⟨.var 3, 4, none, .mov (.s 0)⟩])
 (.ret)), [.t 3]⟩
noncomputable def t_impl_lineOf : List (Nat × Ctr) := [(48, c_impl_Entry_words), (49, c_impl_Decimal)]
theorem lk_impl_lineOf_48 : look t_impl_lineOf 48 = some c_impl_Entry_words := rfl
theorem lk_impl_lineOf_49 : look t_impl_lineOf 49 = some c_impl_Decimal := rfl
noncomputable def c_impl_lineOf : Ctr := mkF t_impl_lineOf ir31 [.bor, .bor]
theorem s_impl_lineOf : Sound Tryd.prog 31 c_impl_lineOf := mkF_sound _ rfl (snd_cons s_impl_Entry_words (snd_cons s_impl_Decimal snd_nil)) (by kernel_rfl : chkFn Tryd.prog 31 ir31 ir31_v = true)
theorem M_impl_lineOf : c_impl_lineOf.modes = [.bor, .bor] := rfl
theorem Fl_impl_lineOf : c_impl_lineOf.flat = true := rfl
attribute [go_sem] M_impl_lineOf Fl_impl_lineOf
attribute [go_sem] lk_impl_lineOf_48 lk_impl_lineOf_49
theorem Fs_impl_lineOf {e_ : Entry} {stamp : Int} {y_ : (List UInt8)} (h : impl_lineOf e_ stamp = some y_) : c_impl_lineOf.F [Entry_av e_, .int .i64 stamp] = ⟨true, .str y_, [.any, .any]⟩ := by
  refine mkF_E rfl ?_
  dsimp only [impl_lineOf] at h
  obtain ⟨y_1, hk1, h⟩ := bd_some h
  have fhk1 := Fs_impl_Entry_words hk1
  try simp only [go_sem] at fhk1
  obtain ⟨hk2, h⟩ := ck_some h
  try simp only [go_sem, n1, n2, n3, n4] at hk2
  all_goals
  obtain ⟨y_3, hk3, h⟩ := bd_some h
  have fhk3 := Fs_impl_Decimal hk3
  try simp only [go_sem, hk2] at fhk3
  obtain ⟨hk4, h⟩ := ck_some h
  try simp only [go_sem, n1, n2, n3, n4, hk2] at hk4
  all_goals
  obtain ⟨hk5, h⟩ := ck_some h
  try simp only [go_sem, n1, n2, n3, n4, hk2, hk4] at hk5
  all_goals
  obtain rfl := so_some h
  refine ⟨0, fun L hL => ?_⟩
  simp only [go_sem, ir31, fhk1, hk2, fhk3, hk4, hk5]


theorem s_hCut : Sound Tryd.prog 53 c_hCut := hCut_is

theorem s_hSplit : Sound Tryd.prog 59 c_hSplit := hSplit_is

theorem s_hRdDec : Sound Tryd.prog 60 c_hRdDec := hRdDec_is

def ir37_v : List Nat := [0, 1, 2, 6]
def ir37 : AFn := ⟨3, 4, .seq (.region false [
    ⟨.var 3, 6, none, .mov (.c (.bool false))⟩])
 (.seq (.region false [
    ⟨.push, 7, none, .mov (.v 0)⟩,
    ⟨.push, 8, none, .mov (.v 1)⟩,
    ⟨.push, 9, none, .bin false .geq (.s 1) (.s 0)⟩,
    ⟨.push, 10, none, .mov (.s 0)⟩,
    ⟨.push, 11, (some ((.s 0), true)), .mov (.v 0)⟩,
    ⟨.push, 12, (some ((.s 1), true)), .mov (.v 2)⟩,
    ⟨.push, 13, (some ((.s 2), true)), .bin false .leq (.s 1) (.s 0)⟩,
    ⟨.push, 14, none, .pick (.s 3) (.s 0) (.c (.bool false))⟩,
    ⟨.var 3, 6, none, .mov (.s 0)⟩])
 (.ret)), [.t 3]⟩
noncomputable def t_impl_in : List (Nat × Ctr) := []
noncomputable def c_impl_in : Ctr := mkF t_impl_in ir37 [.bor, .bor, .bor]
theorem s_impl_in : Sound Tryd.prog 37 c_impl_in := mkF_sound _ rfl snd_nil (by kernel_rfl : chkFn Tryd.prog 37 ir37 ir37_v = true)
theorem M_impl_in : c_impl_in.modes = [.bor, .bor, .bor] := rfl
theorem Fl_impl_in : c_impl_in.flat = true := rfl
attribute [go_sem] M_impl_in Fl_impl_in
theorem Fs_impl_in {n : Int} {low : Int} {high : Int} {y_ : Bool} (h : impl_in n low high = some y_) : c_impl_in.F [.int .i64 n, .int .i64 low, .int .i64 high] = ⟨true, .bool y_, [.any, .any, .any]⟩ := by
  refine mkF_E rfl ?_
  dsimp only [impl_in] at h
  obtain rfl := so_some h
  refine ⟨0, fun L hL => ?_⟩
  simp only [go_sem, ir37]


def ir36_b0 : IR := .seq (.region false [
    ⟨.var 7, 17, none, .bin false .lss (.v 6) (.v 5)⟩])
 (.seq (.cond (.v 7) (.skip)
  (.exit 0))
 (.seq (.block 1 (.seq (.region false [
      ⟨.push, 18, none, .mov (.v 6)⟩,
      ⟨.var 2, 3, none, .mov (.s 0)⟩])
   (.seq (.region false [
      ⟨.push, 19, none, .mov (.v 0)⟩,
      ⟨.push, 20, none, .mov (.v 2)⟩,
      ⟨.push, 21, none, .ixStr (.s 1) (.s 0)⟩,
      ⟨.push, 22, none, .bin false .geq (.s 0) (.c (.int .u8 (97)))⟩,
      ⟨.push, 23, none, .mov (.s 0)⟩,
      ⟨.push, 24, (some ((.s 0), true)), .mov (.v 0)⟩,
      ⟨.push, 25, (some ((.s 1), true)), .mov (.v 2)⟩,
      ⟨.push, 26, (some ((.s 2), true)), .ixStr (.s 1) (.s 0)⟩,
      ⟨.push, 27, (some ((.s 3), true)), .bin false .leq (.s 0) (.c (.int .u8 (122)))⟩,
      ⟨.push, 28, none, .pick (.s 4) (.s 0) (.c (.bool false))⟩,
      ⟨.var 3, 4, none, .mov (.s 0)⟩])
   (.seq (.region false [
      ⟨.push, 29, none, .mov (.v 0)⟩,
      ⟨.push, 30, none, .mov (.v 2)⟩,
      ⟨.push, 31, none, .ixStr (.s 1) (.s 0)⟩,
      ⟨.push, 32, none, .bin false .geq (.s 0) (.c (.int .u8 (48)))⟩,
      ⟨.push, 33, none, .mov (.s 0)⟩,
      ⟨.push, 34, (some ((.s 0), true)), .mov (.v 0)⟩,
      ⟨.push, 35, (some ((.s 1), true)), .mov (.v 2)⟩,
      ⟨.push, 36, (some ((.s 2), true)), .ixStr (.s 1) (.s 0)⟩,
      ⟨.push, 37, (some ((.s 3), true)), .bin false .leq (.s 0) (.c (.int .u8 (57)))⟩,
      ⟨.push, 38, none, .pick (.s 4) (.s 0) (.c (.bool false))⟩,
      ⟨.push, 39, none, .mov (.s 0)⟩,
      ⟨.push, 40, (some ((.s 0), false)), .mov (.v 0)⟩,
      ⟨.push, 41, (some ((.s 1), false)), .mov (.v 2)⟩,
      ⟨.push, 42, (some ((.s 2), false)), .ixStr (.s 1) (.s 0)⟩,
      ⟨.push, 43, (some ((.s 3), false)), .bin false .eql (.s 0) (.c (.int .u8 (45)))⟩,
      ⟨.push, 44, none, .pick (.s 4) (.c (.bool true)) (.s 0)⟩,
      ⟨.var 4, 5, none, .mov (.s 0)⟩])
   (.test false [
     ⟨.push, 45, none, .mov (.v 3)⟩,
     ⟨.push, 46, none, .un .not (.s 0)⟩,
     ⟨.push, 47, none, .mov (.s 0)⟩,
     ⟨.push, 48, (some ((.s 0), true)), .mov (.v 2)⟩,
     ⟨.push, 49, (some ((.s 1), true)), .bin false .eql (.s 0) (.c (.int .i64 (0)))⟩,
     ⟨.push, 50, (some ((.s 2), true)), .mov (.s 0)⟩,
     ⟨.push, 51, (some ((.s 0), false)), .mov (.v 4)⟩,
     ⟨.push, 52, (some ((.s 1), false)), .un .not (.s 0)⟩,
     ⟨.push, 53, (some ((.s 5), true)), .pick (.s 2) (.c (.bool true)) (.s 0)⟩,
     ⟨.push, 54, none, .pick (.s 6) (.s 0) (.c (.bool false))⟩] (.s 0)
   (.seq (.region false [
       ⟨.var 1, 2, none, .mov (.c (.bool false))⟩])
    (.ret))
   (.skip))))))
 (.region false [
   ⟨.push, 55, none, .bin false .add (.v 6) (.c (.int .i64 (1)))⟩,
   ⟨.var 6, 16, none, .mov (.s 0)⟩])))
def ir36_k0 : List Bool := [true, false, false, false, false, true, true, false]
def ir36_o0 : List Bool := [false, false, false, false, false, false, false, false]
def ir36_r0 : List Bool := [false, true, false, false, false, false, false, false]
def ir36_v : List Nat := [0, 2, 3, 4, 5, 15, 16, 17]
def ir36 : AFn := ⟨1, 8, .seq (.region false [
    ⟨.var 1, 2, none, .mov (.c (.bool false))⟩])
 (.seq (.test false [
    ⟨.push, 6, none, .mov (.v 0)⟩,
    ⟨.push, 7, none, .len true (.s 0)⟩,
    ⟨.push, 8, none, .bin false .lss (.s 0) (.c (.int .i64 (1)))⟩,
    ⟨.push, 9, none, .mov (.s 0)⟩,
    ⟨.push, 10, (some ((.s 0), false)), .mov (.v 0)⟩,
    ⟨.push, 11, (some ((.s 1), false)), .len true (.s 0)⟩,
    ⟨.push, 12, (some ((.s 2), false)), .bin false .gtr (.s 0) (.c (.int .i64 (12)))⟩,
    ⟨.push, 13, none, .pick (.s 3) (.c (.bool true)) (.s 0)⟩] (.s 0)
  (.seq (.region false [
      ⟨.var 1, 2, none, .mov (.c (.bool false))⟩])
   (.ret))
  (.skip))
 (.seq (.seq (.region false [
     ⟨.push, 14, none, .mov (.v 0)⟩,
     ⟨.var 5, 15, none, .len true (.s 0)⟩,
     ⟨.var 6, 16, none, .mov (.c (.int .i64 (0)))⟩])
  (.block 0 (.loop ir36_k0 ir36_o0 ir36_r0 ir36_b0)))
 (.seq (.region false [
    ⟨.var 1, 2, none, .mov (.c (.bool true))⟩])
 (.ret)))), [.t 1]⟩
noncomputable def t_impl_IsName : List (Nat × Ctr) := []
noncomputable def c_impl_IsName : Ctr := mkF t_impl_IsName ir36 [.bor]
theorem s_impl_IsName : Sound Tryd.prog 36 c_impl_IsName := mkF_sound _ rfl snd_nil (by kernel_rfl : chkFn Tryd.prog 36 ir36 ir36_v = true)
theorem M_impl_IsName : c_impl_IsName.modes = [.bor] := rfl
theorem Fl_impl_IsName : c_impl_IsName.flat = true := rfl
attribute [go_sem] M_impl_IsName Fl_impl_IsName
def E_impl_IsName_l1 (s_ : List UInt8) (t15 : Int) : Int → St
  | t16 => ⟨[.str s_, .any, .any, .any, .any, .int .i64 t15, .int .i64 t16, .any], [], [], true⟩
def R_impl_IsName_l1 (s_ : List UInt8) (t15 : Int) : (Unit ⊕ Bool) → Res
  | .inl y => (.exit 0, ⟨[.any, .any, .any, .any, .any, .any, .any, .any], [], [], true⟩)
  | .inr y => (.ret, ⟨[.any, .bool y, .any, .any, .any, .any, .any, .any], [], [], true⟩)
theorem impl_IsName_l1_ex {s_ : List UInt8} {t15 : Int} {sgm_ : Int} {rho_ : Unit ⊕ Bool} (h : whileE (impl_IsName_l1 s_ t15) sgm_ = some rho_) : ∃ L0, ∀ L, L0 ≤ L → iter (exec (look t_impl_IsName) L ir36_b0) ir36_k0 ir36_o0 ir36_r0 L (E_impl_IsName_l1 s_ t15 sgm_) = R_impl_IsName_l1 s_ t15 rho_ := by
  refine loop_ex (E := E_impl_IsName_l1 s_ t15) (R := R_impl_IsName_l1 s_ t15) (fun y => by first | (intro c; cases c) | (rcases y with y | y <;> (intro c; cases c)) | (rcases y with y | y | y <;> (intro c; cases c))) ?_ h
  clear h
  intro t16 o_ h
  dsimp only [impl_IsName_l1] at h
  rcases it_some h with ⟨hk2, h⟩ | ⟨hk2, h⟩
  · try simp only [go_sem, n1, n2, n3, n4] at hk2
    all_goals
    obtain ⟨hk3, h⟩ := ck_some h
    try simp only [go_sem, n1, n2, n3, n4, hk2] at hk3
    all_goals
    rcases it_some h with ⟨hk4, h⟩ | ⟨hk4, h⟩
    · try simp only [go_sem, n1, n2, n3, n4, hk2, hk3] at hk4
      all_goals
      obtain rfl := so_some h
      refine ⟨0, fun L hL => ?_⟩
      simp only [go_sem, ir36, E_impl_IsName_l1, R_impl_IsName_l1, ir36_b0, ir36_k0, ir36_o0, ir36_r0, hk2, hk3, hk4]
    · try simp only [go_sem, n1, n2, n3, n4, hk2, hk3] at hk4
      all_goals
      obtain rfl := so_some h
      refine ⟨0, fun L hL => ?_⟩
      simp only [go_sem, ir36, E_impl_IsName_l1, R_impl_IsName_l1, ir36_b0, ir36_k0, ir36_o0, ir36_r0, hk2, hk3, hk4]
  · try simp only [go_sem, n1, n2, n3, n4] at hk2
    all_goals
    obtain rfl := so_some h
    refine ⟨0, fun L hL => ?_⟩
    simp only [go_sem, ir36, E_impl_IsName_l1, R_impl_IsName_l1, ir36_b0, ir36_k0, ir36_o0, ir36_r0, hk2]

theorem Fs_impl_IsName {s_ : List UInt8} {y_ : Bool} (h : impl_IsName s_ = some y_) : c_impl_IsName.F [.str s_] = ⟨true, .bool y_, [.any]⟩ := by
  refine mkF_E rfl ?_
  dsimp only [impl_IsName] at h
  rcases it_some h with ⟨hk1, h⟩ | ⟨hk1, h⟩
  · try simp only [go_sem, n1, n2, n3, n4] at hk1
    all_goals
    obtain rfl := so_some h
    refine ⟨0, fun L hL => ?_⟩
    simp only [go_sem, ir36, E_impl_IsName_l1, R_impl_IsName_l1, ir36_k0, ir36_o0, ir36_r0, hk1]
  · try simp only [go_sem, n1, n2, n3, n4] at hk1
    all_goals
    obtain ⟨y_5, hk5, h⟩ := bd_some h
    obtain ⟨Lhk5, ehk5⟩ := impl_IsName_l1_ex hk5
    rcases y_5 with y_5a | y_5b
    · dsimp only at h
      obtain rfl := so_some h
      refine ⟨Lhk5, fun L hL => ?_⟩
      have ehk5 := ehk5 L (by omega)
      try simp only [go_sem, E_impl_IsName_l1, R_impl_IsName_l1, ir36_k0, ir36_o0, ir36_r0, hk1] at ehk5
      simp only [go_sem, ir36, E_impl_IsName_l1, R_impl_IsName_l1, ir36_k0, ir36_o0, ir36_r0, hk1, ehk5]
    · dsimp only at h
      obtain rfl := so_some h
      refine ⟨Lhk5, fun L hL => ?_⟩
      have ehk5 := ehk5 L (by omega)
      try simp only [go_sem, E_impl_IsName_l1, R_impl_IsName_l1, ir36_k0, ir36_o0, ir36_r0, hk1] at ehk5
      simp only [go_sem, ir36, E_impl_IsName_l1, R_impl_IsName_l1, ir36_k0, ir36_o0, ir36_r0, hk1, ehk5]


def ir30_v : List Nat := [0, 1, 2]
def ir30 : AFn := ⟨1, 3, .seq (.region false [
    ⟨.var 1, 1, none, .box (.v 0)⟩,
    ⟨.var 2, 2, none, .mov (.c (.bool false))⟩])
 (.seq (.region false [
    ⟨.push, 3, none, .fldAddr 0 (.v 1)⟩,
    ⟨.push, 4, none, .load false 1 (.s 0)⟩,
    ⟨.push, 5, none, .call 37 [(.s 0), (.c (.int .i64 (0))), (.c (.int .i64 (100000)))]⟩,
    ⟨.push, 6, none, .mov (.s 0)⟩,
    ⟨.push, 7, (some ((.s 0), true)), .fldAddr 1 (.v 1)⟩,
    ⟨.push, 8, (some ((.s 1), true)), .load false 1 (.s 0)⟩,
    ⟨.push, 9, (some ((.s 2), true)), .call 36 [(.s 0)]⟩,
    ⟨.push, 10, none, .pick (.s 3) (.s 0) (.c (.bool false))⟩,
    ⟨.push, 11, none, .mov (.s 0)⟩,
    ⟨.push, 12, (some ((.s 0), true)), .fldAddr 2 (.v 1)⟩,
    ⟨.push, 13, (some ((.s 1), true)), .load false 1 (.s 0)⟩,
    ⟨.push, 14, (some ((.s 2), true)), .call 37 [(.s 0), (.c (.int .i64 (-1000000))), (.c (.int .i64 (1000000)))]⟩,
    ⟨.push, 15, none, .pick (.s 3) (.s 0) (.c (.bool false))⟩,
    ⟨.var 2, 2, none, .mov (.s 0)⟩])
 (.ret)), [.t 2]⟩
noncomputable def t_impl_ValidEntry : List (Nat × Ctr) := [(37, c_impl_in), (36, c_impl_IsName)]
theorem lk_impl_ValidEntry_37 : look t_impl_ValidEntry 37 = some c_impl_in := rfl
theorem lk_impl_ValidEntry_36 : look t_impl_ValidEntry 36 = some c_impl_IsName := rfl
noncomputable def c_impl_ValidEntry : Ctr := mkF t_impl_ValidEntry ir30 [.bor]
theorem s_impl_ValidEntry : Sound Tryd.prog 30 c_impl_ValidEntry := mkF_sound _ rfl (snd_cons s_impl_in (snd_cons s_impl_IsName snd_nil)) (by kernel_rfl : chkFn Tryd.prog 30 ir30 ir30_v = true)
theorem M_impl_ValidEntry : c_impl_ValidEntry.modes = [.bor] := rfl
theorem Fl_impl_ValidEntry : c_impl_ValidEntry.flat = true := rfl
attribute [go_sem] M_impl_ValidEntry Fl_impl_ValidEntry
attribute [go_sem] lk_impl_ValidEntry_37 lk_impl_ValidEntry_36
theorem Fs_impl_ValidEntry {e_ : Entry} {y_ : Bool} (h : impl_ValidEntry e_ = some y_) : c_impl_ValidEntry.F [Entry_av e_] = ⟨true, .bool y_, [.any]⟩ := by
  refine mkF_E rfl ?_
  dsimp only [impl_ValidEntry] at h
  obtain ⟨y_1, hk1, h⟩ := bd_some h
  have fhk1 := Fs_impl_in hk1
  try simp only [go_sem] at fhk1
  obtain ⟨hk2, h⟩ := ck_some h
  rcases or_split hk2 with ⟨ghk2, hk2⟩ | ghk2
  · try simp only [go_sem, n1, n2, n3, n4] at ghk2
    all_goals
    obtain ⟨y_2, hhk2⟩ := Option.isSome_iff_exists.1 hk2
    have fhk2 := Fs_impl_IsName hhk2
    try simp only [go_sem, ghk2] at fhk2
    obtain ⟨hk3, h⟩ := ck_some h
    rcases or_split hk3 with ⟨ghk3, hk3⟩ | ghk3
    · try simp only [go_sem, n1, n2, n3, n4, ghk2, hhk2] at ghk3
      all_goals
      obtain ⟨y_3, hhk3⟩ := Option.isSome_iff_exists.1 hk3
      have fhk3 := Fs_impl_in hhk3
      try simp only [go_sem, ghk2, hhk2, ghk3] at fhk3
      obtain rfl := so_some h
      refine ⟨0, fun L hL => ?_⟩
      simp only [go_sem, ir30, fhk1, ghk2, hhk2, fhk2, ghk3, hhk3, fhk3]
    · rcases and_f ghk3 with ghk3a | ⟨ghk3a, ghk3b⟩
      · try simp only [go_sem, n1, n2, n3, n4, ghk2, hhk2] at ghk3a
        all_goals
        obtain rfl := so_some h
        refine ⟨0, fun L hL => ?_⟩
        simp only [go_sem, ir30, fhk1, ghk2, hhk2, fhk2, ghk3a]
      · try simp only [go_sem, n1, n2, n3, n4, ghk2, hhk2] at ghk3a
        all_goals
        try simp only [go_sem, n1, n2, n3, n4, ghk2, hhk2, ghk3a] at ghk3b
        all_goals
        obtain rfl := so_some h
        refine ⟨0, fun L hL => ?_⟩
        simp only [go_sem, ir30, fhk1, ghk2, hhk2, fhk2, ghk3a, ghk3b]
  · try simp only [go_sem, n1, n2, n3, n4] at ghk2
    all_goals
    obtain ⟨hk3, h⟩ := ck_some h
    rcases or_split hk3 with ⟨ghk3, hk3⟩ | ghk3
    · try simp only [go_sem, n1, n2, n3, n4, ghk2] at ghk3
      all_goals
      obtain ⟨y_3, hhk3⟩ := Option.isSome_iff_exists.1 hk3
      have fhk3 := Fs_impl_in hhk3
      try simp only [go_sem, ghk2, ghk3] at fhk3
      obtain rfl := so_some h
      refine ⟨0, fun L hL => ?_⟩
      simp only [go_sem, ir30, fhk1, ghk2, ghk3, hhk3, fhk3]
    · rcases and_f ghk3 with ghk3a | ⟨ghk3a, ghk3b⟩
      · try simp only [go_sem, n1, n2, n3, n4, ghk2] at ghk3a
        all_goals
        obtain rfl := so_some h
        refine ⟨0, fun L hL => ?_⟩
        simp only [go_sem, ir30, fhk1, ghk2, ghk3a]
      · try simp only [go_sem, n1, n2, n3, n4, ghk2] at ghk3a
        all_goals
        try simp only [go_sem, n1, n2, n3, n4, ghk2, ghk3a] at ghk3b
        all_goals
        obtain rfl := so_some h
        refine ⟨0, fun L hL => ?_⟩
        simp only [go_sem, ir30, fhk1, ghk2, ghk3a, ghk3b]


def ir54_v : List Nat := [0, 2, 3, 4, 5, 6, 7, 8, 9, 10, 11, 12]
def ir54 : AFn := ⟨1, 12, .seq (.region false [
    ⟨.var 1, 2, none, .alloc (.agg [.int .i64 (0), .str [], .int .i64 (0)])⟩,
    ⟨.var 2, 3, none, .mov (.c (.int .i64 (0)))⟩,
    ⟨.var 3, 4, none, .mov (.c (.bool false))⟩])
 (.seq (.region false [
    ⟨.push, 13, none, .mov (.v 0)⟩,
    ⟨.push, 14, none, .call 59 [(.s 0), (.c (.str [32]))]⟩,
    ⟨.var 4, 5, none, .mov (.s 0)⟩])
 (.seq (.test false [
    ⟨.push, 15, none, .mov (.v 4)⟩,
    ⟨.push, 16, none, .len false (.s 0)⟩,
    ⟨.push, 17, none, .bin false .neq (.s 0) (.c (.int .i64 (4)))⟩] (.s 0)
  (.seq (.region false [
      ⟨.push, 18, none, .build [.int .i64 (0), .str [], .int .i64 (0)] []⟩,
      ⟨.no, 0, none, .store 3 (.v 1) (.s 0)⟩,
      ⟨.var 2, 3, none, .mov (.c (.int .i64 (0)))⟩,
      ⟨.var 3, 4, none, .mov (.c (.bool false))⟩])
   (.ret))
  (.skip))
 (.seq (.region false [
    ⟨.push, 20, none, .mov (.v 4)⟩,
    ⟨.push, 21, none, .ixAddr 1 (.s 0) (.c (.int .i64 (0)))⟩,
    ⟨.push, 22, none, .load false 1 (.s 0)⟩,
    ⟨.push, 23, none, .call 60 [(.s 0)]⟩,
    ⟨.push, 19, none, .mov (.s 0)⟩,
    ⟨.push, 24, none, .ext (.s 0) 0⟩,
    ⟨.push, 25, none, .ext (.s 1) 1⟩,
    ⟨.var 5, 6, none, .mov (.s 1)⟩,
    ⟨.var 6, 7, none, .mov (.s 0)⟩])
 (.seq (.region false [
    ⟨.push, 27, none, .mov (.v 4)⟩,
    ⟨.push, 28, none, .ixAddr 1 (.s 0) (.c (.int .i64 (2)))⟩,
    ⟨.push, 29, none, .load false 1 (.s 0)⟩,
    ⟨.push, 30, none, .call 60 [(.s 0)]⟩,
    ⟨.push, 26, none, .mov (.s 0)⟩,
    ⟨.push, 31, none, .ext (.s 0) 0⟩,
    ⟨.push, 32, none, .ext (.s 1) 1⟩,
    ⟨.var 7, 8, none, .mov (.s 1)⟩,
    ⟨.var 8, 9, none, .mov (.s 0)⟩])
 (.seq (.region false [
    ⟨.push, 34, none, .mov (.v 4)⟩,
    ⟨.push, 35, none, .ixAddr 1 (.s 0) (.c (.int .i64 (3)))⟩,
    ⟨.push, 36, none, .load false 1 (.s 0)⟩,
    ⟨.push, 37, none, .call 60 [(.s 0)]⟩,
    ⟨.push, 33, none, .mov (.s 0)⟩,
    ⟨.push, 38, none, .ext (.s 0) 0⟩,
    ⟨.push, 39, none, .ext (.s 1) 1⟩,
    ⟨.var 9, 10, none, .mov (.s 1)⟩,
    ⟨.var 10, 11, none, .mov (.s 0)⟩])
 (.seq (.region false [
    ⟨.push, 40, none, .mov (.v 5)⟩,
    ⟨.push, 41, none, .mov (.v 4)⟩,
    ⟨.push, 42, none, .ixAddr 1 (.s 0) (.c (.int .i64 (1)))⟩,
    ⟨.push, 43, none, .load false 1 (.s 0)⟩,
    ⟨.push, 44, none, .mov (.v 7)⟩,
    ⟨.push, 45, none, .build [.int .i64 (0), .str [], .int .i64 (0)] [(0, 1, (.s 4)), (1, 1, (.s 1)), (2, 1, (.s 0))]⟩,
    ⟨.var 11, 12, none, .alloc (.agg [.int .i64 (0), .str [], .int .i64 (0)])⟩,
    ⟨.no, 0, none, .store 3 (.v 11) (.s 0)⟩])
 (.seq (.anyo 13 [
    ⟨.slot 0, 46, none, .load true 3 (.v 11)⟩,
    ⟨.slot 1, 47, none, .mov (.v 9)⟩,
    ⟨.slot 2, 48, none, .mov (.v 6)⟩,
    ⟨.slot 3, 49, none, .mov (.s 2)⟩,
    ⟨.slot 4, 50, (some ((.s 3), true)), .mov (.v 8)⟩,
    ⟨.slot 5, 51, none, .pick (.s 3) (.s 4) (.c (.bool false))⟩,
    ⟨.slot 6, 52, none, .mov (.s 5)⟩,
    ⟨.slot 7, 53, (some ((.s 6), true)), .mov (.v 10)⟩,
    ⟨.slot 8, 54, none, .pick (.s 6) (.s 7) (.c (.bool false))⟩,
    ⟨.slot 9, 55, none, .mov (.s 8)⟩,
    ⟨.slot 10, 56, (some ((.s 9), true)), .load true 3 (.v 11)⟩,
    ⟨.slot 11, 57, (some ((.s 9), true)), .call 30 [(.s 10)]⟩,
    ⟨.slot 12, 58, none, .pick (.s 9) (.s 11) (.c (.bool false))⟩,
    ⟨.no, 0, none, .store 3 (.v 1) (.s 0)⟩,
    ⟨.var 2, 3, none, .mov (.s 1)⟩,
    ⟨.var 3, 4, none, .mov (.s 12)⟩] [[0, 2, 3, 4, 5, 6, 7, 8, 9, 10, 11, 1, 12, 13, 14, 15], [0, 2, 3, 4, 5, 6, 7, 8, 9, 10, 11, 1, 13, 12, 14, 15], [0, 2, 3, 4, 5, 6, 7, 8, 9, 10, 11, 12, 1, 13, 14, 15], [0, 2, 3, 4, 5, 6, 7, 8, 9, 10, 11, 12, 13, 1, 14, 15], [0, 2, 3, 4, 5, 6, 7, 8, 9, 10, 11, 13, 1, 12, 14, 15]] .skip)
 (.ret)))))))), [.cell true 3 1, .t 2, .t 3]⟩
noncomputable def t_impl_readEntry : List (Nat × Ctr) := [(59, c_hSplit), (60, c_hRdDec), (30, c_impl_ValidEntry)]
theorem lk_impl_readEntry_59 : look t_impl_readEntry 59 = some c_hSplit := rfl
theorem lk_impl_readEntry_60 : look t_impl_readEntry 60 = some c_hRdDec := rfl
theorem lk_impl_readEntry_30 : look t_impl_readEntry 30 = some c_impl_ValidEntry := rfl
noncomputable def c_impl_readEntry : Ctr := mkN t_impl_readEntry ir54 [.bor]
theorem s_impl_readEntry : Sound Tryd.prog 54 c_impl_readEntry := mkN_sound _ (snd_cons s_hSplit (snd_cons s_hRdDec (snd_cons s_impl_ValidEntry snd_nil))) (by kernel_rfl : chkFn Tryd.prog 54 ir54 ir54_v = true)
theorem M_impl_readEntry : c_impl_readEntry.modes = [.bor] := rfl
theorem Fl_impl_readEntry : c_impl_readEntry.flat = false := rfl
attribute [go_sem] M_impl_readEntry Fl_impl_readEntry
attribute [go_sem] lk_impl_readEntry_59 lk_impl_readEntry_60 lk_impl_readEntry_30
theorem Fs_impl_readEntry {line : List UInt8} {y_ : Entry × Int × Bool} (h : impl_readEntry line = some y_) : c_impl_readEntry.F [.str line] = ⟨true, .tup [Entry_av y_.1, .int .i64 y_.2.1, .bool y_.2.2], [.any]⟩ := by
  refine mkN_E ?_
  dsimp only [impl_readEntry] at h
  obtain ⟨y_1, hk1, h⟩ := bd_some h
  have fhk1 := Fs_hSplit hk1
  try simp only [go_sem] at fhk1
  rcases it_some h with ⟨hk2, h⟩ | ⟨hk2, h⟩
  · try simp only [go_sem, n1, n2, n3, n4] at hk2
    all_goals
    obtain rfl := so_some h
    refine ⟨0, fun L hL => ?_⟩
    simp only [go_sem, ir54, fhk1, hk2]
  · try simp only [go_sem, n1, n2, n3, n4] at hk2
    all_goals
    obtain ⟨hk3, h⟩ := ck_some h
    have lhk3 := ix_lt hk3
    have xhk3 := getD_mapD AV.str y_1 lhk3
    try simp only [go_sem] at lhk3
    try simp only [go_sem] at xhk3
    try simp only [go_sem, n1, n2, n3, n4, hk2] at hk3
    all_goals
    obtain ⟨y_4, hk4, h⟩ := bd_some h
    have fhk4 := Fs_hRdDec hk4
    try simp only [go_sem, hk2, hk3] at fhk4
    obtain ⟨hk5, h⟩ := ck_some h
    have lhk5 := ix_lt hk5
    have xhk5 := getD_mapD AV.str y_1 lhk5
    try simp only [go_sem] at lhk5
    try simp only [go_sem] at xhk5
    try simp only [go_sem, n1, n2, n3, n4, hk2, hk3] at hk5
    all_goals
    obtain ⟨y_6, hk6, h⟩ := bd_some h
    have fhk6 := Fs_hRdDec hk6
    try simp only [go_sem, hk2, hk3, hk5] at fhk6
    obtain ⟨hk7, h⟩ := ck_some h
    have lhk7 := ix_lt hk7
    have xhk7 := getD_mapD AV.str y_1 lhk7
    try simp only [go_sem] at lhk7
    try simp only [go_sem] at xhk7
    try simp only [go_sem, n1, n2, n3, n4, hk2, hk3, hk5] at hk7
    all_goals
    obtain ⟨y_8, hk8, h⟩ := bd_some h
    have fhk8 := Fs_hRdDec hk8
    try simp only [go_sem, hk2, hk3, hk5, hk7] at fhk8
    obtain ⟨hk9, h⟩ := ck_some h
    have lhk9 := ix_lt hk9
    have xhk9 := getD_mapD AV.str y_1 lhk9
    try simp only [go_sem] at lhk9
    try simp only [go_sem] at xhk9
    try simp only [go_sem, n1, n2, n3, n4, hk2, hk3, hk5, hk7] at hk9
    all_goals
    obtain ⟨hk10, h⟩ := ck_some h
    rcases or_split hk10 with ⟨ghk10, hk10⟩ | ghk10
    · try simp only [go_sem, n1, n2, n3, n4, hk2, hk3, hk5, hk7, hk9] at ghk10
      all_goals
      obtain ⟨y_10, hhk10⟩ := Option.isSome_iff_exists.1 hk10
      have fhk10 := Fs_impl_ValidEntry hhk10
      try simp only [go_sem, hk2, hk3, hk5, hk7, hk9, ghk10] at fhk10
      obtain rfl := so_some h
      refine ⟨0, fun L hL => ?_⟩
      simp only [go_sem, ir54, fhk1, hk2, hk3, lhk3, xhk3, fhk4, hk5, lhk5, xhk5, fhk6, hk7, lhk7, xhk7, fhk8, hk9, lhk9, xhk9, ghk10, hhk10, fhk10]
    · rcases and_f ghk10 with ghk10a | ⟨ghk10a, ghk10b⟩
      · rcases and_f ghk10a with ghk10aa | ⟨ghk10aa, ghk10ab⟩
        · try simp only [go_sem, n1, n2, n3, n4, hk2, hk3, hk5, hk7, hk9] at ghk10aa
          all_goals
          obtain rfl := so_some h
          refine ⟨0, fun L hL => ?_⟩
          simp only [go_sem, ir54, fhk1, hk2, hk3, lhk3, xhk3, fhk4, hk5, lhk5, xhk5, fhk6, hk7, lhk7, xhk7, fhk8, hk9, lhk9, xhk9, ghk10aa]
        · try simp only [go_sem, n1, n2, n3, n4, hk2, hk3, hk5, hk7, hk9] at ghk10aa
          all_goals
          try simp only [go_sem, n1, n2, n3, n4, hk2, hk3, hk5, hk7, hk9, ghk10aa] at ghk10ab
          all_goals
          obtain rfl := so_some h
          refine ⟨0, fun L hL => ?_⟩
          simp only [go_sem, ir54, fhk1, hk2, hk3, lhk3, xhk3, fhk4, hk5, lhk5, xhk5, fhk6, hk7, lhk7, xhk7, fhk8, hk9, lhk9, xhk9, ghk10aa, ghk10ab]
      · obtain ⟨ghk10aa, ghk10ab⟩ := and_t ghk10a
        try simp only [go_sem, n1, n2, n3, n4, hk2, hk3, hk5, hk7, hk9] at ghk10aa
        all_goals
        try simp only [go_sem, n1, n2, n3, n4, hk2, hk3, hk5, hk7, hk9, ghk10aa] at ghk10ab
        all_goals
        try simp only [go_sem, n1, n2, n3, n4, hk2, hk3, hk5, hk7, hk9, ghk10aa, ghk10ab] at ghk10b
        all_goals
        obtain rfl := so_some h
        refine ⟨0, fun L hL => ?_⟩
        simp only [go_sem, ir54, fhk1, hk2, hk3, lhk3, xhk3, fhk4, hk5, lhk5, xhk5, fhk6, hk7, lhk7, xhk7, fhk8, hk9, lhk9, xhk9, ghk10aa, ghk10ab, ghk10b]


def ir47_b0 : IR := .block 1 (.seq (.region false [
     ⟨.push, 17, none, .mov (.v 0)⟩,
     ⟨.push, 18, none, .mov (.v 5)⟩,
     ⟨.push, 19, none, .slice 0 (.s 1) (some (.s 0)) none⟩,
     ⟨.push, 20, none, .call 53 [(.s 0), (.c (.str [10]))]⟩,
     ⟨.push, 16, none, .mov (.s 0)⟩,
     ⟨.push, 21, none, .ext (.s 0) 0⟩,
     ⟨.push, 22, none, .ext (.s 1) 1⟩,
     ⟨.push, 23, none, .ext (.s 2) 2⟩,
     ⟨.var 8, 9, none, .mov (.s 2)⟩,
     ⟨.push, 10, none, .mov (.s 1)⟩,
     ⟨.var 9, 11, none, .mov (.s 1)⟩])
  (.seq (.region false [
     ⟨.push, 25, none, .mov (.v 8)⟩,
     ⟨.push, 26, none, .call 54 [(.s 0)]⟩,
     ⟨.push, 24, none, .mov (.s 0)⟩,
     ⟨.push, 27, none, .ext (.s 0) 0⟩,
     ⟨.push, 28, none, .ext (.s 1) 1⟩,
     ⟨.push, 29, none, .ext (.s 2) 2⟩,
     ⟨.var 10, 12, none, .alloc (.agg [.int .i64 (0), .str [], .int .i64 (0)])⟩,
     ⟨.no, 0, none, .store 3 (.v 10) (.s 2)⟩,
     ⟨.var 11, 13, none, .mov (.s 1)⟩,
     ⟨.var 12, 14, none, .mov (.s 0)⟩])
  (.seq (.test false [
     ⟨.push, 30, none, .mov (.v 9)⟩,
     ⟨.push, 31, none, .un .not (.s 0)⟩,
     ⟨.push, 32, none, .mov (.s 0)⟩,
     ⟨.push, 33, (some ((.s 0), false)), .mov (.v 12)⟩,
     ⟨.push, 34, (some ((.s 1), false)), .un .not (.s 0)⟩,
     ⟨.push, 35, none, .pick (.s 2) (.c (.bool true)) (.s 0)⟩,
     ⟨.push, 36, none, .mov (.s 0)⟩,
     ⟨.push, 37, (some ((.s 0), false)), .fldAddr 0 (.v 10)⟩,
     ⟨.push, 38, (some ((.s 1), false)), .load false 1 (.s 0)⟩,
     ⟨.push, 39, (some ((.s 2), false)), .mov (.v 7)⟩,
     ⟨.push, 40, (some ((.s 3), false)), .bin false .lss (.s 1) (.s 0)⟩,
     ⟨.push, 41, none, .pick (.s 4) (.c (.bool true)) (.s 0)⟩,
     ⟨.push, 42, none, .mov (.s 0)⟩,
     ⟨.push, 43, (some ((.s 0), false)), .mov (.v 11)⟩,
     ⟨.push, 44, (some ((.s 1), false)), .mov (.v 6)⟩,
     ⟨.push, 45, (some ((.s 2), false)), .load true 3 (.v 10)⟩,
     ⟨.push, 46, (some ((.s 3), false)), .call 32 [(.s 1), (.s 0)]⟩,
     ⟨.push, 47, (some ((.s 4), false)), .bin false .neq (.s 3) (.s 0)⟩,
     ⟨.push, 48, none, .pick (.s 5) (.c (.bool true)) (.s 0)⟩] (.s 0)
   (.seq (.region false [
       ⟨.push, 49, none, .mov (.v 4)⟩,
       ⟨.push, 50, none, .mov (.v 5)⟩,
       ⟨.push, 51, none, .mov (.v 6)⟩,
       ⟨.var 1, 2, none, .mov (.s 2)⟩,
       ⟨.var 2, 3, none, .mov (.s 1)⟩,
       ⟨.var 3, 4, none, .mov (.s 0)⟩])
    (.ret))
   (.skip))
  (.seq (.region false [
     ⟨.push, 52, none, .mov (.v 4)⟩,
     ⟨.push, 53, none, .load true 3 (.v 10)⟩,
     ⟨.push, 54, none, .mkSl 3 (.agg [.int .i64 (0), .str [], .int .i64 (0)]) 1 [(0, (.s 0))]⟩,
     ⟨.push, 55, none, .app 3 32 (.agg [.int .i64 (0), .str [], .int .i64 (0)]) (.s 2) (.s 0)⟩,
     ⟨.var 4, 5, none, .mov (.s 0)⟩])
  (.seq (.region false [
     ⟨.push, 56, none, .mov (.v 5)⟩,
     ⟨.push, 57, none, .mov (.v 8)⟩,
     ⟨.push, 58, none, .len true (.s 0)⟩,
     ⟨.push, 59, none, .bin false .add (.s 0) (.c (.int .i64 (1)))⟩,
     ⟨.push, 60, none, .bin false .add (.s 3) (.s 0)⟩,
     ⟨.var 5, 6, none, .mov (.s 0)⟩])
  (.anyo 3 [
    ⟨.slot 0, 61, none, .mov (.v 11)⟩,
    ⟨.slot 1, 62, none, .fldAddr 0 (.v 10)⟩,
    ⟨.slot 2, 63, none, .load false 1 (.s 1)⟩,
    ⟨.var 6, 7, none, .mov (.s 0)⟩,
    ⟨.var 7, 8, none, .mov (.s 2)⟩] [] .skip))))))
def ir47_k0 : List Bool := [true, false, false, false, true, true, true, true, false, false, false, false, false]
def ir47_o0 : List Bool := [false, false, false, false, false, false, false, false, false, false, false, false, false]
def ir47_r0 : List Bool := [false, true, true, true, false, false, false, false, false, false, false, false, false]
def ir47_v : List Nat := [0, 2, 3, 4, 5, 6, 7, 8, 9, 11, 12, 13, 14]
def ir47 : AFn := ⟨1, 13, .seq (.region false [
    ⟨.var 1, 2, none, .newnil 3⟩,
    ⟨.var 2, 3, none, .mov (.c (.int .i64 (0)))⟩,
    ⟨.var 3, 4, none, .mov (.c (.int .i64 (0)))⟩])
 (.seq (.region false [
    ⟨.push, 15, none, .mkSl 3 (.agg [.int .i64 (0), .str [], .int .i64 (0)]) 0 []⟩,
    ⟨.var 4, 5, none, .mov (.s 0)⟩,
    ⟨.var 5, 6, none, .mov (.c (.int .i64 (0)))⟩,
    ⟨.var 6, 7, none, .mov (.c (.int .i64 (0)))⟩,
    ⟨.var 7, 8, none, .mov (.c (.int .i64 (0)))⟩])
 (.block 0 (.loop ir47_k0 ir47_o0 ir47_r0 ir47_b0))), [.t 1, .t 2, .t 3]⟩
noncomputable def t_impl_readLog : List (Nat × Ctr) := [(53, c_hCut), (54, c_impl_readEntry), (32, c_impl_stamp)]
theorem lk_impl_readLog_53 : look t_impl_readLog 53 = some c_hCut := rfl
theorem lk_impl_readLog_54 : look t_impl_readLog 54 = some c_impl_readEntry := rfl
theorem lk_impl_readLog_32 : look t_impl_readLog 32 = some c_impl_stamp := rfl
noncomputable def c_impl_readLog : Ctr := mkF t_impl_readLog ir47 [.bor]
theorem s_impl_readLog : Sound Tryd.prog 47 c_impl_readLog := mkF_sound _ rfl (snd_cons s_hCut (snd_cons s_impl_readEntry (snd_cons s_impl_stamp snd_nil))) (by kernel_rfl : chkFn Tryd.prog 47 ir47 ir47_v = true)
theorem M_impl_readLog : c_impl_readLog.modes = [.bor] := rfl
theorem Fl_impl_readLog : c_impl_readLog.flat = true := rfl
attribute [go_sem] M_impl_readLog Fl_impl_readLog
attribute [go_sem] lk_impl_readLog_53 lk_impl_readLog_54 lk_impl_readLog_32
def E_impl_readLog_l1 (log : List UInt8) : ((List Entry) × Int × Int × Int) → St
  | (entries, used, last, day) => ⟨[.str log, .any, .any, .any, .own 3200000, .int .i64 used, .int .i64 last, .int .i64 day, .any, .any, .any, .any, .any], [], [(3200000, ⟨3, List.map Entry_av entries⟩)], true⟩
def R_impl_readLog_l1 (log : List UInt8) (y : (List Entry) × Int × Int) : Res := (.ret, ⟨[.any, .own 3200000, .int .i64 y.2.1, .int .i64 y.2.2, .any, .any, .any, .any, .any, .any, .any, .any, .any], [], [(3200000, ⟨3, List.map Entry_av y.1⟩)], true⟩)
theorem impl_readLog_l1_ex {log : List UInt8} {sgm_ : (List Entry) × Int × Int × Int} {rho_ : (List Entry) × Int × Int} (h : whileE (impl_readLog_l1 log) sgm_ = some rho_) : ∃ L0, ∀ L, L0 ≤ L → iter (exec (look t_impl_readLog) L ir47_b0) ir47_k0 ir47_o0 ir47_r0 L (E_impl_readLog_l1 log sgm_) = R_impl_readLog_l1 log rho_ := by
  refine loop_ex (E := E_impl_readLog_l1 log) (R := R_impl_readLog_l1 log) (fun y => by first | (intro c; cases c) | (rcases y with y | y <;> (intro c; cases c)) | (rcases y with y | y | y <;> (intro c; cases c))) ?_ h
  clear h
  rintro ⟨entries, used, last, day⟩ o_ h
  dsimp only [impl_readLog_l1] at h
  obtain ⟨hk1, h⟩ := ck_some h
  try simp only [go_sem, n1, n2, n3, n4] at hk1
  all_goals
  obtain ⟨y_2, hk2, h⟩ := bd_some h
  have fhk2 := Fs_hCut hk2
  try simp only [go_sem, hk1] at fhk2
  obtain ⟨y_3, hk3, h⟩ := bd_some h
  have fhk3 := Fs_impl_readEntry hk3
  try simp only [go_sem, hk1] at fhk3
  obtain ⟨hk4, h⟩ := ck_some h
  rcases or_split hk4 with ⟨ghk4, hk4⟩ | ghk4
  · try simp only [go_sem, n1, n2, n3, n4, hk1] at ghk4
    all_goals
    obtain ⟨y_4, hhk4⟩ := Option.isSome_iff_exists.1 hk4
    have fhk4 := Fs_impl_stamp hhk4
    try simp only [go_sem, hk1, ghk4] at fhk4
    rcases it_some h with ⟨hk5, h⟩ | ⟨hk5, h⟩
    · try simp only [go_sem, n1, n2, n3, n4, hk1, ghk4, hhk4] at hk5
      all_goals
      obtain rfl := so_some h
      refine ⟨0, fun L hL => ?_⟩
      simp only [go_sem, ir47, E_impl_readLog_l1, R_impl_readLog_l1, ir47_b0, ir47_k0, ir47_o0, ir47_r0, hk1, fhk2, fhk3, ghk4, hhk4, fhk4, hk5]
    · try simp only [go_sem, n1, n2, n3, n4, hk1, ghk4, hhk4] at hk5
      all_goals
      obtain ⟨hk6, h⟩ := ck_some h
      try simp only [go_sem, n1, n2, n3, n4, hk1, ghk4, hhk4, hk5] at hk6
      all_goals
      obtain rfl := so_some h
      refine ⟨0, fun L hL => ?_⟩
      simp only [go_sem, ir47, E_impl_readLog_l1, R_impl_readLog_l1, ir47_b0, ir47_k0, ir47_o0, ir47_r0, hk1, fhk2, fhk3, ghk4, hhk4, fhk4, hk5, hk6]
  · have ghk4n := no_f ghk4
    rcases or_t ghk4n with ghk4na | ⟨ghk4na, ghk4nb⟩
    · rcases or_t ghk4na with ghk4naa | ⟨ghk4naa, ghk4nab⟩
      · have ghk4naan := no_t ghk4naa
        try simp only [go_sem, n1, n2, n3, n4, hk1] at ghk4naan
        all_goals
        rcases it_some h with ⟨hk5, h⟩ | ⟨hk5, h⟩
        · try simp only [go_sem, n1, n2, n3, n4, hk1, ghk4naan] at hk5
          all_goals
          obtain rfl := so_some h
          refine ⟨0, fun L hL => ?_⟩
          simp only [go_sem, ir47, E_impl_readLog_l1, R_impl_readLog_l1, ir47_b0, ir47_k0, ir47_o0, ir47_r0, hk1, fhk2, fhk3, ghk4naan, hk5]
        · try simp only [go_sem, n1, n2, n3, n4, hk1, ghk4naan] at hk5
          all_goals
          obtain ⟨hk6, h⟩ := ck_some h
          try simp only [go_sem, n1, n2, n3, n4, hk1, ghk4naan, hk5] at hk6
          all_goals
          obtain rfl := so_some h
          refine ⟨0, fun L hL => ?_⟩
          simp only [go_sem, ir47, E_impl_readLog_l1, R_impl_readLog_l1, ir47_b0, ir47_k0, ir47_o0, ir47_r0, hk1, fhk2, fhk3, ghk4naan, hk5, hk6]
      · have ghk4naan := no_f ghk4naa
        have ghk4nabn := no_t ghk4nab
        try simp only [go_sem, n1, n2, n3, n4, hk1] at ghk4naan
        all_goals
        try simp only [go_sem, n1, n2, n3, n4, hk1, ghk4naan] at ghk4nabn
        all_goals
        rcases it_some h with ⟨hk5, h⟩ | ⟨hk5, h⟩
        · try simp only [go_sem, n1, n2, n3, n4, hk1, ghk4naan, ghk4nabn] at hk5
          all_goals
          obtain rfl := so_some h
          refine ⟨0, fun L hL => ?_⟩
          simp only [go_sem, ir47, E_impl_readLog_l1, R_impl_readLog_l1, ir47_b0, ir47_k0, ir47_o0, ir47_r0, hk1, fhk2, fhk3, ghk4naan, ghk4nabn, hk5]
        · try simp only [go_sem, n1, n2, n3, n4, hk1, ghk4naan, ghk4nabn] at hk5
          all_goals
          obtain ⟨hk6, h⟩ := ck_some h
          try simp only [go_sem, n1, n2, n3, n4, hk1, ghk4naan, ghk4nabn, hk5] at hk6
          all_goals
          obtain rfl := so_some h
          refine ⟨0, fun L hL => ?_⟩
          simp only [go_sem, ir47, E_impl_readLog_l1, R_impl_readLog_l1, ir47_b0, ir47_k0, ir47_o0, ir47_r0, hk1, fhk2, fhk3, ghk4naan, ghk4nabn, hk5, hk6]
    · obtain ⟨ghk4naa, ghk4nab⟩ := or_f ghk4na
      have ghk4naan := no_f ghk4naa
      have ghk4nabn := no_f ghk4nab
      try simp only [go_sem, n1, n2, n3, n4, hk1] at ghk4naan
      all_goals
      try simp only [go_sem, n1, n2, n3, n4, hk1, ghk4naan] at ghk4nabn
      all_goals
      try simp only [go_sem, n1, n2, n3, n4, hk1, ghk4naan, ghk4nabn] at ghk4nb
      all_goals
      rcases it_some h with ⟨hk5, h⟩ | ⟨hk5, h⟩
      · try simp only [go_sem, n1, n2, n3, n4, hk1, ghk4naan, ghk4nabn, ghk4nb] at hk5
        all_goals
        obtain rfl := so_some h
        refine ⟨0, fun L hL => ?_⟩
        simp only [go_sem, ir47, E_impl_readLog_l1, R_impl_readLog_l1, ir47_b0, ir47_k0, ir47_o0, ir47_r0, hk1, fhk2, fhk3, ghk4naan, ghk4nabn, ghk4nb, hk5]
      · try simp only [go_sem, n1, n2, n3, n4, hk1, ghk4naan, ghk4nabn, ghk4nb] at hk5
        all_goals
        obtain ⟨hk6, h⟩ := ck_some h
        try simp only [go_sem, n1, n2, n3, n4, hk1, ghk4naan, ghk4nabn, ghk4nb, hk5] at hk6
        all_goals
        obtain rfl := so_some h
        refine ⟨0, fun L hL => ?_⟩
        simp only [go_sem, ir47, E_impl_readLog_l1, R_impl_readLog_l1, ir47_b0, ir47_k0, ir47_o0, ir47_r0, hk1, fhk2, fhk3, ghk4naan, ghk4nabn, ghk4nb, hk5, hk6]

theorem Fs_impl_readLog {log : List UInt8} {y_ : (List Entry) × Int × Int} (h : impl_readLog log = some y_) : c_impl_readLog.F [.str log] = ⟨true, .tup [.fresh 3 (List.map Entry_av y_.1), .int .i64 y_.2.1, .int .i64 y_.2.2], [.any]⟩ := by
  refine mkF_E (by simp only [flatA, flatB, flat1, List.all_cons, List.all_nil, Bool.and_self, flatE_map (f := Entry_av) (fun _ => rfl)]) ?_
  dsimp only [impl_readLog] at h
  obtain ⟨y_7, hk7, h⟩ := bd_some h
  obtain ⟨Lhk7, ehk7⟩ := impl_readLog_l1_ex hk7
  obtain rfl := so_some h
  refine ⟨Lhk7, fun L hL => ?_⟩
  have ehk7 := ehk7 L (by omega)
  try simp only [go_sem, E_impl_readLog_l1, R_impl_readLog_l1, ir47_k0, ir47_o0, ir47_r0] at ehk7
  simp only [go_sem, ir47, E_impl_readLog_l1, R_impl_readLog_l1, ir47_k0, ir47_o0, ir47_r0, ehk7]


def ir29_v : List Nat := [0, 2, 3, 4, 5, 6, 7]
def ir29 : AFn := ⟨1, 7, .seq (.region false [
    ⟨.var 1, 2, none, .newnil 3⟩,
    ⟨.var 2, 3, none, .mov (.c (.int .i64 (0)))⟩,
    ⟨.var 3, 4, none, .mov (.c (.int .i64 (0)))⟩])
 (.seq (.test false [
    ⟨.push, 8, none, .mov (.v 0)⟩,
    ⟨.push, 9, none, .len true (.s 0)⟩,
    ⟨.push, 10, none, .bin false .gtr (.s 0) (.c (.int .i64 (4000)))⟩] (.s 0)
  (.seq (.region false [
      ⟨.var 1, 2, none, .newnil 3⟩,
      ⟨.var 2, 3, none, .mov (.c (.int .i64 (0)))⟩,
      ⟨.var 3, 4, none, .mov (.c (.int .i64 (5)))⟩])
   (.ret))
  (.skip))
 (.seq (.region false [
    ⟨.push, 12, none, .mov (.v 0)⟩,
    ⟨.push, 13, none, .call 47 [(.s 0)]⟩,
    ⟨.push, 11, none, .mov (.s 0)⟩,
    ⟨.push, 14, none, .ext (.s 0) 0⟩,
    ⟨.push, 15, none, .ext (.s 1) 1⟩,
    ⟨.push, 16, none, .ext (.s 2) 2⟩,
    ⟨.var 4, 5, none, .mov (.s 2)⟩,
    ⟨.var 5, 6, none, .mov (.s 1)⟩,
    ⟨.var 6, 7, none, .mov (.s 0)⟩])
 (.seq (.test false [
    ⟨.push, 17, none, .mov (.v 5)⟩,
    ⟨.push, 18, none, .mov (.v 0)⟩,
    ⟨.push, 19, none, .len true (.s 0)⟩,
    ⟨.push, 20, none, .bin false .lss (.s 2) (.s 0)⟩] (.s 0)
  (.seq (.region false [
      ⟨.var 1, 2, none, .newnil 3⟩,
      ⟨.var 2, 3, none, .mov (.c (.int .i64 (0)))⟩,
      ⟨.var 3, 4, none, .mov (.c (.int .i64 (8)))⟩])
   (.ret))
  (.skip))
 (.seq (.region false [
    ⟨.push, 21, none, .mov (.v 4)⟩,
    ⟨.push, 22, none, .mov (.v 6)⟩,
    ⟨.var 1, 2, none, .mov (.s 1)⟩,
    ⟨.var 2, 3, none, .mov (.s 0)⟩,
    ⟨.var 3, 4, none, .mov (.c (.int .i64 (0)))⟩])
 (.ret))))), [.t 1, .t 2, .t 3]⟩
noncomputable def t_impl_wholeLog : List (Nat × Ctr) := [(47, c_impl_readLog)]
theorem lk_impl_wholeLog_47 : look t_impl_wholeLog 47 = some c_impl_readLog := rfl
noncomputable def c_impl_wholeLog : Ctr := mkF t_impl_wholeLog ir29 [.bor]
theorem s_impl_wholeLog : Sound Tryd.prog 29 c_impl_wholeLog := mkF_sound _ rfl (snd_cons s_impl_readLog snd_nil) (by kernel_rfl : chkFn Tryd.prog 29 ir29 ir29_v = true)
theorem M_impl_wholeLog : c_impl_wholeLog.modes = [.bor] := rfl
theorem Fl_impl_wholeLog : c_impl_wholeLog.flat = true := rfl
attribute [go_sem] M_impl_wholeLog Fl_impl_wholeLog
attribute [go_sem] lk_impl_wholeLog_47
theorem Fs_impl_wholeLog {log : List UInt8} {y_ : (List Entry) × Int × Int} (h : impl_wholeLog log = some y_) : c_impl_wholeLog.F [.str log] = ⟨true, .tup [.fresh 3 (List.map Entry_av y_.1), .int .i64 y_.2.1, .int .i64 y_.2.2], [.any]⟩ := by
  refine mkF_E (by simp only [flatA, flatB, flat1, List.all_cons, List.all_nil, Bool.and_self, flatE_map (f := Entry_av) (fun _ => rfl)]) ?_
  dsimp only [impl_wholeLog] at h
  rcases it_some h with ⟨hk1, h⟩ | ⟨hk1, h⟩
  · try simp only [go_sem, n1, n2, n3, n4] at hk1
    all_goals
    obtain rfl := so_some h
    refine ⟨0, fun L hL => ?_⟩
    simp only [go_sem, ir29, hk1]
  · try simp only [go_sem, n1, n2, n3, n4] at hk1
    all_goals
    obtain ⟨y_2, hk2, h⟩ := bd_some h
    have fhk2 := Fs_impl_readLog hk2
    try simp only [go_sem, hk1] at fhk2
    rcases it_some h with ⟨hk3, h⟩ | ⟨hk3, h⟩
    · try simp only [go_sem, n1, n2, n3, n4, hk1] at hk3
      all_goals
      obtain rfl := so_some h
      refine ⟨0, fun L hL => ?_⟩
      simp only [go_sem, ir29, hk1, fhk2, hk3]
    · try simp only [go_sem, n1, n2, n3, n4, hk1] at hk3
      all_goals
      obtain rfl := so_some h
      refine ⟨0, fun L hL => ?_⟩
      simp only [go_sem, ir29, hk1, fhk2, hk3]


def ir10_v : List Nat := [0, 1, 3, 4, 5, 6, 7, 8]
def ir10 : AFn := ⟨2, 8, .seq (.region false [
    ⟨.var 2, 3, none, .box (.v 1)⟩,
    ⟨.var 3, 4, none, .mov (.c (.str []))⟩,
    ⟨.var 4, 5, none, .mov (.c (.int .i64 (0)))⟩])
 (.seq (.region false [
    ⟨.push, 10, none, .mov (.v 0)⟩,
    ⟨.push, 11, none, .call 29 [(.s 0)]⟩,
    ⟨.push, 9, none, .mov (.s 0)⟩,
    ⟨.push, 12, none, .ext (.s 0) 0⟩,
    ⟨.push, 13, none, .ext (.s 1) 1⟩,
    ⟨.push, 14, none, .ext (.s 2) 2⟩,
    ⟨.var 5, 6, none, .mov (.s 2)⟩,
    ⟨.var 6, 7, none, .mov (.s 1)⟩,
    ⟨.var 7, 8, none, .mov (.s 0)⟩])
 (.seq (.block 0 (.test false [
     ⟨.push, 16, none, .mov (.v 7)⟩,
     ⟨.push, 17, none, .bin false .neq (.s 0) (.c (.int .i64 (0)))⟩,
     ⟨.push, 15, none, .mov (.s 0)⟩] (.s 0)
   (.seq (.region false [
       ⟨.push, 18, none, .mov (.v 7)⟩,
       ⟨.var 3, 4, none, .mov (.c (.str []))⟩,
       ⟨.var 4, 5, none, .mov (.s 0)⟩])
    (.ret))
   (.test false [
      ⟨.push, 20, none, .load true 3 (.v 2)⟩,
      ⟨.push, 21, none, .call 30 [(.s 0)]⟩,
      ⟨.push, 22, none, .un .not (.s 0)⟩,
      ⟨.push, 19, none, .mov (.s 0)⟩] (.s 0)
    (.seq (.region false [
        ⟨.var 3, 4, none, .mov (.c (.str []))⟩,
        ⟨.var 4, 5, none, .mov (.c (.int .i64 (7)))⟩])
     (.ret))
    (.anyo 16 [
       ⟨.slot 0, 24, none, .mov (.v 5)⟩,
       ⟨.slot 1, 25, none, .len false (.s 0)⟩,
       ⟨.slot 2, 26, none, .bin false .gtr (.s 1) (.c (.int .i64 (0)))⟩,
       ⟨.slot 3, 27, none, .mov (.s 2)⟩,
       ⟨.slot 4, 28, (some ((.s 3), true)), .fldAddr 0 (.v 2)⟩,
       ⟨.slot 5, 29, (some ((.s 3), true)), .load false 1 (.s 4)⟩,
       ⟨.slot 6, 30, (some ((.s 3), true)), .mov (.v 5)⟩,
       ⟨.slot 7, 31, (some ((.s 3), true)), .mov (.v 5)⟩,
       ⟨.slot 8, 32, (some ((.s 3), true)), .len false (.s 7)⟩,
       ⟨.slot 9, 33, (some ((.s 3), true)), .bin false .sub (.s 8) (.c (.int .i64 (1)))⟩,
       ⟨.slot 10, 34, (some ((.s 3), true)), .ixAddr 3 (.s 6) (.s 9)⟩,
       ⟨.slot 11, 35, (some ((.s 3), true)), .fldAddr 0 (.s 10)⟩,
       ⟨.slot 12, 36, (some ((.s 3), true)), .load false 1 (.s 11)⟩,
       ⟨.slot 13, 37, (some ((.s 3), true)), .bin false .lss (.s 5) (.s 12)⟩,
       ⟨.slot 14, 38, none, .pick (.s 3) (.s 13) (.c (.bool false))⟩,
       ⟨.slot 15, 23, none, .mov (.s 14)⟩] [] (.cond (.s 15)
     (.seq (.region false [
         ⟨.var 3, 4, none, .mov (.c (.str []))⟩,
         ⟨.var 4, 5, none, .mov (.c (.int .i64 (6)))⟩])
      (.ret))
     (.skip))))))
 (.seq (.anyo 7 [
    ⟨.slot 0, 39, none, .mov (.v 0)⟩,
    ⟨.slot 1, 40, none, .load true 3 (.v 2)⟩,
    ⟨.slot 2, 41, none, .mov (.v 6)⟩,
    ⟨.slot 3, 42, none, .load true 3 (.v 2)⟩,
    ⟨.slot 4, 43, none, .callp 32 [(.s 2), (.s 3)]⟩,
    ⟨.slot 5, 44, none, .callp 31 [(.s 1), (.s 4)]⟩,
    ⟨.slot 6, 45, none, .bin false .add (.s 0) (.s 5)⟩,
    ⟨.var 0, 0, none, .mov (.s 6)⟩] [] .skip)
 (.seq (.test false [
    ⟨.push, 46, none, .mov (.v 0)⟩,
    ⟨.push, 47, none, .len true (.s 0)⟩,
    ⟨.push, 48, none, .bin false .gtr (.s 0) (.c (.int .i64 (4000)))⟩] (.s 0)
  (.seq (.region false [
      ⟨.var 3, 4, none, .mov (.c (.str []))⟩,
      ⟨.var 4, 5, none, .mov (.c (.int .i64 (5)))⟩])
   (.ret))
  (.skip))
 (.seq (.region false [
    ⟨.push, 49, none, .mov (.v 0)⟩,
    ⟨.var 3, 4, none, .mov (.s 0)⟩,
    ⟨.var 4, 5, none, .mov (.c (.int .i64 (0)))⟩])
 (.ret)))))), [.t 3, .t 4]⟩
noncomputable def t_impl_AddEntry : List (Nat × Ctr) := [(29, c_impl_wholeLog), (30, c_impl_ValidEntry), (32, c_impl_stamp), (31, c_impl_lineOf)]
theorem lk_impl_AddEntry_29 : look t_impl_AddEntry 29 = some c_impl_wholeLog := rfl
theorem lk_impl_AddEntry_30 : look t_impl_AddEntry 30 = some c_impl_ValidEntry := rfl
theorem lk_impl_AddEntry_32 : look t_impl_AddEntry 32 = some c_impl_stamp := rfl
theorem lk_impl_AddEntry_31 : look t_impl_AddEntry 31 = some c_impl_lineOf := rfl
noncomputable def c_impl_AddEntry : Ctr := mkF t_impl_AddEntry ir10 [.bor, .bor]
theorem s_impl_AddEntry : Sound Tryd.prog 10 c_impl_AddEntry := mkF_sound _ rfl (snd_cons s_impl_wholeLog (snd_cons s_impl_ValidEntry (snd_cons s_impl_stamp (snd_cons s_impl_lineOf snd_nil)))) (by kernel_rfl : chkFn Tryd.prog 10 ir10 ir10_v = true)
theorem M_impl_AddEntry : c_impl_AddEntry.modes = [.bor, .bor] := rfl
theorem Fl_impl_AddEntry : c_impl_AddEntry.flat = true := rfl
attribute [go_sem] M_impl_AddEntry Fl_impl_AddEntry
attribute [go_sem] lk_impl_AddEntry_29 lk_impl_AddEntry_30 lk_impl_AddEntry_32 lk_impl_AddEntry_31
theorem Fs_impl_AddEntry {log : List UInt8} {e_ : Entry} {y_ : (List UInt8) × Int} (h : impl_AddEntry log e_ = some y_) : c_impl_AddEntry.F [.str log, Entry_av e_] = ⟨true, .tup [.str y_.1, .int .i64 y_.2], [.any, .any]⟩ := by
  refine mkF_E rfl ?_
  dsimp only [impl_AddEntry] at h
  obtain ⟨y_1, hk1, h⟩ := bd_some h
  have fhk1 := Fs_impl_wholeLog hk1
  try simp only [go_sem] at fhk1
  rcases it_some h with ⟨hk2, h⟩ | ⟨hk2, h⟩
  · try simp only [go_sem, n1, n2, n3, n4] at hk2
    all_goals
    obtain rfl := so_some h
    refine ⟨0, fun L hL => ?_⟩
    simp only [go_sem, ir10, fhk1, hk2]
  · try simp only [go_sem, n1, n2, n3, n4] at hk2
    all_goals
    obtain ⟨y_3, hk3, h⟩ := bd_some h
    have fhk3 := Fs_impl_ValidEntry hk3
    try simp only [go_sem, hk2] at fhk3
    rcases it_some h with ⟨hk4, h⟩ | ⟨hk4, h⟩
    · try simp only [go_sem, n1, n2, n3, n4, hk2] at hk4
      all_goals
      obtain rfl := so_some h
      refine ⟨0, fun L hL => ?_⟩
      simp only [go_sem, ir10, fhk1, hk2, fhk3, hk4]
    · try simp only [go_sem, n1, n2, n3, n4, hk2] at hk4
      all_goals
      obtain ⟨hk5, h⟩ := ck_some h
      rcases or_split hk5 with ⟨ghk5, hk5⟩ | ghk5
      · try simp only [go_sem, n1, n2, n3, n4, hk2, hk4] at ghk5
        all_goals
        have lhk5 := ix_lt hk5
        have xhk5 := getD_mapD Entry_av y_1.1 lhk5
        try simp only [go_sem] at lhk5
        try simp only [go_sem] at xhk5
        try simp only [go_sem, n1, n2, n3, n4, hk2, hk4, ghk5] at hk5
        all_goals
        rcases it_some h with ⟨hk6, h⟩ | ⟨hk6, h⟩
        · try simp only [go_sem, n1, n2, n3, n4, hk2, hk4, ghk5, hk5] at hk6
          all_goals
          obtain rfl := so_some h
          refine ⟨0, fun L hL => ?_⟩
          simp only [go_sem, ir10, fhk1, hk2, fhk3, hk4, ghk5, hk5, lhk5, xhk5, hk6]
        · try simp only [go_sem, n1, n2, n3, n4, hk2, hk4, ghk5, hk5] at hk6
          all_goals
          obtain ⟨y_7, hk7, h⟩ := bd_some h
          have fhk7 := Fs_impl_stamp hk7
          try simp only [go_sem, hk2, hk4, ghk5, hk5, hk6] at fhk7
          obtain ⟨y_8, hk8, h⟩ := bd_some h
          have fhk8 := Fs_impl_lineOf hk8
          try simp only [go_sem, hk2, hk4, ghk5, hk5, hk6] at fhk8
          obtain ⟨hk9, h⟩ := ck_some h
          try simp only [go_sem, n1, n2, n3, n4, hk2, hk4, ghk5, hk5, hk6] at hk9
          all_goals
          rcases it_some h with ⟨hk10, h⟩ | ⟨hk10, h⟩
          · try simp only [go_sem, n1, n2, n3, n4, hk2, hk4, ghk5, hk5, hk6, hk9] at hk10
            all_goals
            obtain rfl := so_some h
            refine ⟨0, fun L hL => ?_⟩
            simp only [go_sem, ir10, fhk1, hk2, fhk3, hk4, ghk5, hk5, lhk5, xhk5, hk6, fhk7, fhk8, hk9, hk10]
          · try simp only [go_sem, n1, n2, n3, n4, hk2, hk4, ghk5, hk5, hk6, hk9] at hk10
            all_goals
            obtain rfl := so_some h
            refine ⟨0, fun L hL => ?_⟩
            simp only [go_sem, ir10, fhk1, hk2, fhk3, hk4, ghk5, hk5, lhk5, xhk5, hk6, fhk7, fhk8, hk9, hk10]
      · try simp only [go_sem, n1, n2, n3, n4, hk2, hk4] at ghk5
        all_goals
        rcases it_some h with ⟨hk6, h⟩ | ⟨hk6, h⟩
        · try simp only [go_sem, n1, n2, n3, n4, hk2, hk4, ghk5] at hk6
          all_goals
          obtain rfl := so_some h
          refine ⟨0, fun L hL => ?_⟩
          simp only [go_sem, ir10, fhk1, hk2, fhk3, hk4, ghk5, hk6]
        · try simp only [go_sem, n1, n2, n3, n4, hk2, hk4, ghk5] at hk6
          all_goals
          obtain ⟨y_7, hk7, h⟩ := bd_some h
          have fhk7 := Fs_impl_stamp hk7
          try simp only [go_sem, hk2, hk4, ghk5, hk6] at fhk7
          obtain ⟨y_8, hk8, h⟩ := bd_some h
          have fhk8 := Fs_impl_lineOf hk8
          try simp only [go_sem, hk2, hk4, ghk5, hk6] at fhk8
          obtain ⟨hk9, h⟩ := ck_some h
          try simp only [go_sem, n1, n2, n3, n4, hk2, hk4, ghk5, hk6] at hk9
          all_goals
          rcases it_some h with ⟨hk10, h⟩ | ⟨hk10, h⟩
          · try simp only [go_sem, n1, n2, n3, n4, hk2, hk4, ghk5, hk6, hk9] at hk10
            all_goals
            obtain rfl := so_some h
            refine ⟨0, fun L hL => ?_⟩
            simp only [go_sem, ir10, fhk1, hk2, fhk3, hk4, ghk5, hk6, fhk7, fhk8, hk9, hk10]
          · try simp only [go_sem, n1, n2, n3, n4, hk2, hk4, ghk5, hk6, hk9] at hk10
            all_goals
            obtain rfl := so_some h
            refine ⟨0, fun L hL => ?_⟩
            simp only [go_sem, ir10, fhk1, hk2, fhk3, hk4, ghk5, hk6, fhk7, fhk8, hk9, hk10]


def ir3_v : List Nat := [0, 1, 3, 4, 5, 6, 7, 8, 9]
def ir3 : AFn := ⟨2, 9, .seq (.region false [
    ⟨.var 2, 3, none, .box (.v 1)⟩,
    ⟨.var 3, 4, none, .mov (.c (.bool false))⟩])
 (.seq (.test false [
    ⟨.push, 10, none, .mov (.v 0)⟩,
    ⟨.push, 11, none, .len true (.s 0)⟩,
    ⟨.push, 12, none, .bin false .gtr (.s 0) (.c (.int .i64 (1048576)))⟩] (.s 0)
  (.seq (.region false [
      ⟨.var 3, 4, none, .mov (.c (.bool true))⟩])
   (.ret))
  (.skip))
 (.seq (.region false [
    ⟨.var 4, 5, none, .mov (.c (.int .i64 (1048576)))⟩])
 (.seq (.region false [
    ⟨.push, 13, none, .load true 3 (.v 2)⟩,
    ⟨.push, 14, none, .mov (.v 4)⟩,
    ⟨.push, 15, none, .call 7 [(.s 1), (.s 0)]⟩,
    ⟨.var 4, 5, none, .mov (.s 0)⟩])
 (.seq (.test false [
    ⟨.push, 16, none, .mov (.v 4)⟩,
    ⟨.push, 17, none, .bin false .lss (.s 0) (.c (.int .i64 (0)))⟩] (.s 0)
  (.seq (.region false [
      ⟨.var 3, 4, none, .mov (.c (.bool true))⟩])
   (.ret))
  (.skip))
 (.seq (.region false [
    ⟨.push, 19, none, .mov (.v 0)⟩,
    ⟨.push, 20, none, .load true 3 (.v 2)⟩,
    ⟨.push, 21, none, .call 9 [(.s 0)]⟩,
    ⟨.push, 22, none, .call 8 [(.s 2), (.s 0)]⟩,
    ⟨.push, 18, none, .mov (.s 0)⟩,
    ⟨.push, 23, none, .ext (.s 0) 0⟩,
    ⟨.push, 24, none, .ext (.s 1) 1⟩,
    ⟨.var 5, 6, none, .mov (.s 1)⟩,
    ⟨.var 6, 7, none, .mov (.s 0)⟩])
 (.seq (.region false [
    ⟨.push, 26, none, .mov (.v 0)⟩,
    ⟨.push, 27, none, .load true 3 (.v 2)⟩,
    ⟨.push, 28, none, .call 9 [(.s 0)]⟩,
    ⟨.push, 29, none, .call 10 [(.s 2), (.s 0)]⟩,
    ⟨.push, 25, none, .mov (.s 0)⟩,
    ⟨.push, 30, none, .ext (.s 0) 0⟩,
    ⟨.push, 31, none, .ext (.s 1) 1⟩,
    ⟨.var 7, 8, none, .mov (.s 1)⟩,
    ⟨.var 8, 9, none, .mov (.s 0)⟩])
 (.seq (.test false [
    ⟨.push, 32, none, .mov (.v 7)⟩,
    ⟨.push, 33, none, .mov (.v 5)⟩,
    ⟨.push, 34, none, .bin false .neq (.s 1) (.s 0)⟩,
    ⟨.push, 35, none, .mov (.s 0)⟩,
    ⟨.push, 36, (some ((.s 0), false)), .mov (.v 8)⟩,
    ⟨.push, 37, (some ((.s 1), false)), .mov (.v 6)⟩,
    ⟨.push, 38, (some ((.s 2), false)), .bin false .neq (.s 1) (.s 0)⟩,
    ⟨.push, 39, none, .pick (.s 3) (.c (.bool true)) (.s 0)⟩] (.s 0)
  (.seq (.region false [
      ⟨.var 3, 4, none, .mov (.c (.bool false))⟩])
   (.ret))
  (.skip))
 (.seq (.region false [
    ⟨.var 3, 4, none, .mov (.c (.bool true))⟩])
 (.ret))))))))), [.t 3]⟩
noncomputable def t_laws_FnExactAddEntry : List (Nat × Ctr) := [(7, c_laws_szEntry), (9, c_laws_toEntry), (8, c_spec_AddEntry), (10, c_impl_AddEntry)]
theorem lk_laws_FnExactAddEntry_7 : look t_laws_FnExactAddEntry 7 = some c_laws_szEntry := rfl
theorem lk_laws_FnExactAddEntry_9 : look t_laws_FnExactAddEntry 9 = some c_laws_toEntry := rfl
theorem lk_laws_FnExactAddEntry_8 : look t_laws_FnExactAddEntry 8 = some c_spec_AddEntry := rfl
theorem lk_laws_FnExactAddEntry_10 : look t_laws_FnExactAddEntry 10 = some c_impl_AddEntry := rfl
noncomputable def c_laws_FnExactAddEntry : Ctr := mkF t_laws_FnExactAddEntry ir3 [.bor, .bor]
theorem s_laws_FnExactAddEntry : Sound Tryd.prog 3 c_laws_FnExactAddEntry := mkF_sound _ rfl (snd_cons s_laws_szEntry (snd_cons s_laws_toEntry (snd_cons s_spec_AddEntry (snd_cons s_impl_AddEntry snd_nil)))) (by kernel_rfl : chkFn Tryd.prog 3 ir3 ir3_v = true)
theorem M_laws_FnExactAddEntry : c_laws_FnExactAddEntry.modes = [.bor, .bor] := rfl
theorem Fl_laws_FnExactAddEntry : c_laws_FnExactAddEntry.flat = true := rfl
attribute [go_sem] M_laws_FnExactAddEntry Fl_laws_FnExactAddEntry
attribute [go_sem] lk_laws_FnExactAddEntry_7 lk_laws_FnExactAddEntry_9 lk_laws_FnExactAddEntry_8 lk_laws_FnExactAddEntry_10
theorem Fs_laws_FnExactAddEntry {aLog : List UInt8} {aE : Entry} {y_ : Bool} (h : laws_FnExactAddEntry aLog aE = some y_) : c_laws_FnExactAddEntry.F [.str aLog, Entry_av aE] = ⟨true, .bool y_, [.any, .any]⟩ := by
  refine mkF_E rfl ?_
  dsimp only [laws_FnExactAddEntry] at h
  rcases it_some h with ⟨hk1, h⟩ | ⟨hk1, h⟩
  · try simp only [go_sem, n1, n2, n3, n4] at hk1
    all_goals
    obtain rfl := so_some h
    refine ⟨0, fun L hL => ?_⟩
    simp only [go_sem, ir3, hk1]
  · try simp only [go_sem, n1, n2, n3, n4] at hk1
    all_goals
    obtain ⟨y_2, hk2, h⟩ := bd_some h
    have fhk2 := Fs_laws_szEntry hk2
    try simp only [go_sem, hk1] at fhk2
    rcases it_some h with ⟨hk3, h⟩ | ⟨hk3, h⟩
    · try simp only [go_sem, n1, n2, n3, n4, hk1] at hk3
      all_goals
      obtain rfl := so_some h
      refine ⟨0, fun L hL => ?_⟩
      simp only [go_sem, ir3, hk1, fhk2, hk3]
    · try simp only [go_sem, n1, n2, n3, n4, hk1] at hk3
      all_goals
      obtain ⟨y_4, hk4, h⟩ := bd_some h
      have fhk4 := Fs_laws_toEntry hk4
      try simp only [go_sem, hk1, hk3] at fhk4
      obtain ⟨y_5, hk5, h⟩ := bd_some h
      have fhk5 := Fs_spec_AddEntry hk5
      try simp only [go_sem, hk1, hk3] at fhk5
      obtain ⟨y_6, hk6, h⟩ := bd_some h
      have fhk6 := Fs_impl_AddEntry hk6
      try simp only [go_sem, hk1, hk3] at fhk6
      rcases it_some h with ⟨hk7, h⟩ | ⟨hk7, h⟩
      · try simp only [go_sem, n1, n2, n3, n4, hk1, hk3] at hk7
        all_goals
        obtain rfl := so_some h
        refine ⟨0, fun L hL => ?_⟩
        simp only [go_sem, ir3, hk1, fhk2, hk3, fhk4, fhk5, fhk6, hk7]
      · try simp only [go_sem, n1, n2, n3, n4, hk1, hk3] at hk7
        all_goals
        obtain rfl := so_some h
        refine ⟨0, fun L hL => ?_⟩
        simp only [go_sem, ir3, hk1, fhk2, hk3, fhk4, fhk5, fhk6, hk7]


def ir33_v : List Nat := [0, 1, 4, 5, 6, 7]
def ir33 : AFn := ⟨2, 6, .seq (.region false [
    ⟨.var 2, 4, none, .mov (.c (.cv (.pointer none)))⟩,
    ⟨.var 3, 5, none, .mov (.c (.int .i64 (0)))⟩])
 (.seq (.region false [
    ⟨.push, 9, none, .mov (.v 0)⟩,
    ⟨.push, 10, none, .call 23 [(.s 0)]⟩,
    ⟨.push, 8, none, .mov (.s 0)⟩,
    ⟨.push, 11, none, .ext (.s 0) 0⟩,
    ⟨.push, 12, none, .ext (.s 1) 1⟩,
    ⟨.var 4, 6, none, .mov (.s 1)⟩,
    ⟨.var 5, 7, none, .mov (.s 0)⟩])
 (.seq (.test false [
    ⟨.push, 13, none, .mov (.v 5)⟩,
    ⟨.push, 14, none, .bin false .eql (.s 0) (.c (.int .i64 (0)))⟩,
    ⟨.push, 15, none, .mov (.s 0)⟩,
    ⟨.push, 16, (some ((.s 0), true)), .mov (.v 1)⟩,
    ⟨.push, 17, (some ((.s 1), true)), .call 45 [(.s 0)]⟩,
    ⟨.push, 18, (some ((.s 2), true)), .un .not (.s 0)⟩,
    ⟨.push, 19, none, .pick (.s 3) (.s 0) (.c (.bool false))⟩] (.s 0)
  (.region false [
     ⟨.var 5, 7, none, .mov (.c (.int .i64 (2)))⟩])
  (.skip))
 (.seq (.region false [
    ⟨.push, 20, none, .mov (.v 4)⟩,
    ⟨.push, 21, none, .mov (.v 5)⟩,
    ⟨.var 2, 4, none, .mov (.s 1)⟩,
    ⟨.var 3, 5, none, .mov (.s 0)⟩])
 (.ret)))), [.t 2, .t 3]⟩
noncomputable def t_spec_l27What : List (Nat × Ctr) := [(23, c_spec_l27Code), (45, c_spec_IsName)]
theorem lk_spec_l27What_23 : look t_spec_l27What 23 = some c_spec_l27Code := rfl
theorem lk_spec_l27What_45 : look t_spec_l27What 45 = some c_spec_IsName := rfl
noncomputable def c_spec_l27What : Ctr := mkN t_spec_l27What ir33 [.bor, .bor]
theorem s_spec_l27What : Sound Tryd.prog 33 c_spec_l27What := mkN_sound _ (snd_cons s_spec_l27Code (snd_cons s_spec_IsName snd_nil)) (by kernel_rfl : chkFn Tryd.prog 33 ir33 ir33_v = true)
theorem M_spec_l27What : c_spec_l27What.modes = [.bor, .bor] := rfl
theorem Fl_spec_l27What : c_spec_l27What.flat = false := rfl
attribute [go_sem] M_spec_l27What Fl_spec_l27What
attribute [go_sem] lk_spec_l27What_23 lk_spec_l27What_45
theorem Fs_spec_l27What {log : List UInt8} {what : List UInt8} {y_ : L27R × Int} (h : spec_l27What log what = some y_) : c_spec_l27What.F [.str log, .str what] = ⟨true, .tup [.mem 4 [L27R_av y_.1], .int .i64 y_.2], [.any, .any]⟩ := by
  refine mkN_E ?_
  dsimp only [spec_l27What] at h
  obtain ⟨y_1, hk1, h⟩ := bd_some h
  have fhk1 := Fs_spec_l27Code hk1
  try simp only [go_sem] at fhk1
  obtain ⟨hk2, h⟩ := ck_some h
  rcases or_split hk2 with ⟨ghk2, hk2⟩ | ghk2
  · try simp only [go_sem, n1, n2, n3, n4] at ghk2
    all_goals
    obtain ⟨y_2, hhk2⟩ := Option.isSome_iff_exists.1 hk2
    have fhk2 := Fs_spec_IsName hhk2
    try simp only [go_sem, ghk2] at fhk2
    rcases it_some h with ⟨hk3, h⟩ | ⟨hk3, h⟩
    · try simp only [go_sem, n1, n2, n3, n4, ghk2, hhk2] at hk3
      all_goals
      obtain rfl := so_some h
      refine ⟨0, fun L hL => ?_⟩
      simp only [go_sem, ir33, fhk1, ghk2, hhk2, fhk2, hk3]
    · try simp only [go_sem, n1, n2, n3, n4, ghk2, hhk2] at hk3
      all_goals
      obtain rfl := so_some h
      refine ⟨0, fun L hL => ?_⟩
      simp only [go_sem, ir33, fhk1, ghk2, hhk2, fhk2, hk3]
  · try simp only [go_sem, n1, n2, n3, n4] at ghk2
    all_goals
    rcases it_some h with ⟨hk3, h⟩ | ⟨hk3, h⟩
    · try simp only [go_sem, n1, n2, n3, n4, ghk2] at hk3
      all_goals
      obtain rfl := so_some h
      refine ⟨0, fun L hL => ?_⟩
      simp only [go_sem, ir33, fhk1, ghk2, hk3]
    · try simp only [go_sem, n1, n2, n3, n4, ghk2] at hk3
      all_goals
      obtain rfl := so_some h
      refine ⟨0, fun L hL => ?_⟩
      simp only [go_sem, ir33, fhk1, ghk2, hk3]


def ir11_b0 : IR := .seq (.test false [
    ⟨.push, 35, none, .mov (.v 9)⟩,
    ⟨.push, 36, none, .mov (.v 6)⟩,
    ⟨.push, 37, none, .nilck (.s 0)⟩,
    ⟨.push, 38, none, .fldAddr 3 (.s 0)⟩,
    ⟨.push, 39, none, .load false 1 (.s 0)⟩,
    ⟨.push, 40, none, .len false (.s 0)⟩,
    ⟨.push, 41, none, .bin false .lss (.s 5) (.s 0)⟩] (.s 0)
  (.skip)
  (.exit 0))
 (.seq (.block 1 (.test false [
     ⟨.push, 44, none, .mov (.v 6)⟩,
     ⟨.push, 45, none, .nilck (.s 0)⟩,
     ⟨.push, 46, none, .fldAddr 3 (.s 0)⟩,
     ⟨.push, 47, none, .load false 1 (.s 0)⟩,
     ⟨.push, 48, none, .mov (.v 9)⟩,
     ⟨.push, 49, none, .ixAddr 3 (.s 1) (.s 0)⟩,
     ⟨.push, 50, none, .fldAddr 1 (.s 0)⟩,
     ⟨.push, 51, none, .load false 1 (.s 0)⟩,
     ⟨.push, 52, none, .mov (.v 1)⟩,
     ⟨.push, 53, none, .bin false .eql (.s 1) (.s 0)⟩,
     ⟨.push, 54, none, .mov (.s 0)⟩,
     ⟨.push, 55, (some ((.s 0), true)), .mov (.v 6)⟩,
     ⟨.push, 56, (some ((.s 1), true)), .nilck (.s 0)⟩,
     ⟨.push, 57, (some ((.s 2), true)), .fldAddr 3 (.s 0)⟩,
     ⟨.push, 58, (some ((.s 3), true)), .load false 1 (.s 0)⟩,
     ⟨.push, 59, (some ((.s 4), true)), .mov (.v 9)⟩,
     ⟨.push, 60, (some ((.s 5), true)), .ixAddr 3 (.s 1) (.s 0)⟩,
     ⟨.push, 61, (some ((.s 6), true)), .fldAddr 0 (.s 0)⟩,
     ⟨.push, 62, (some ((.s 7), true)), .load false 1 (.s 0)⟩,
     ⟨.push, 63, (some ((.s 8), true)), .mov (.v 2)⟩,
     ⟨.push, 64, (some ((.s 9), true)), .mov (.v 3)⟩,
     ⟨.push, 65, (some ((.s 10), true)), .call 35 [(.s 2), (.s 1), (.s 0)]⟩,
     ⟨.push, 66, none, .pick (.s 11) (.s 0) (.c (.bool false))⟩] (.s 0)
   (.region false [
      ⟨.push, 67, none, .mov (.v 8)⟩,
      ⟨.push, 68, none, .mov (.v 6)⟩,
      ⟨.push, 69, none, .nilck (.s 0)⟩,
      ⟨.push, 70, none, .fldAddr 3 (.s 0)⟩,
      ⟨.push, 71, none, .load false 1 (.s 0)⟩,
      ⟨.push, 72, none, .mov (.v 9)⟩,
      ⟨.push, 73, none, .ixAddr 3 (.s 1) (.s 0)⟩,
      ⟨.push, 74, none, .fldAddr 2 (.s 0)⟩,
      ⟨.push, 75, none, .load false 1 (.s 0)⟩,
      ⟨.push, 76, none, .bin false .add (.s 8) (.s 0)⟩,
      ⟨.var 8, 12, none, .mov (.s 0)⟩])
   (.skip)))
 (.region false [
   ⟨.push, 42, none, .mov (.v 9)⟩,
   ⟨.push, 43, none, .bin false .add (.s 0) (.c (.int .i64 (1)))⟩,
   ⟨.var 9, 13, none, .mov (.s 0)⟩]))
def ir11_k0 : List Bool := [false, true, true, true, false, false, true, false, true, true]
def ir11_o0 : List Bool := [false, false, false, false, false, false, false, false, true, false]
def ir11_r0 : List Bool := [false, false, false, false, true, true, false, false, false, false]
def ir11_v : List Nat := [0, 1, 2, 3, 8, 9, 10, 11, 12, 13]
def ir11 : AFn := ⟨4, 10, .seq (.region false [
    ⟨.var 4, 8, none, .mov (.c (.int .i64 (0)))⟩,
    ⟨.var 5, 9, none, .mov (.c (.int .i64 (0)))⟩])
 (.seq (.region false [
    ⟨.push, 15, none, .mov (.v 0)⟩,
    ⟨.push, 16, none, .mov (.v 1)⟩,
    ⟨.push, 17, none, .call 33 [(.s 1), (.s 0)]⟩,
    ⟨.push, 14, none, .mov (.s 0)⟩,
    ⟨.push, 18, none, .ext (.s 0) 0⟩,
    ⟨.push, 19, none, .ext (.s 1) 1⟩,
    ⟨.var 6, 10, none, .mov (.s 1)⟩,
    ⟨.var 7, 11, none, .mov (.s 0)⟩])
 (.seq (.test false [
    ⟨.push, 20, none, .mov (.v 7)⟩,
    ⟨.push, 21, none, .bin false .eql (.s 0) (.c (.int .i64 (0)))⟩,
    ⟨.push, 22, none, .mov (.s 0)⟩,
    ⟨.push, 23, (some ((.s 0), true)), .mov (.v 2)⟩,
    ⟨.push, 24, (some ((.s 1), true)), .call 34 [(.s 0)]⟩,
    ⟨.push, 25, (some ((.s 2), true)), .un .not (.s 0)⟩,
    ⟨.push, 26, (some ((.s 3), true)), .mov (.s 0)⟩,
    ⟨.push, 27, (some ((.s 0), false)), .mov (.v 3)⟩,
    ⟨.push, 28, (some ((.s 1), false)), .call 34 [(.s 0)]⟩,
    ⟨.push, 29, (some ((.s 2), false)), .un .not (.s 0)⟩,
    ⟨.push, 30, (some ((.s 7), true)), .pick (.s 3) (.c (.bool true)) (.s 0)⟩,
    ⟨.push, 31, none, .pick (.s 8) (.s 0) (.c (.bool false))⟩] (.s 0)
  (.region false [
     ⟨.var 7, 11, none, .mov (.c (.int .i64 (2)))⟩])
  (.skip))
 (.seq (.test false [
    ⟨.push, 32, none, .mov (.v 7)⟩,
    ⟨.push, 33, none, .bin false .neq (.s 0) (.c (.int .i64 (0)))⟩] (.s 0)
  (.seq (.region false [
      ⟨.push, 34, none, .mov (.v 7)⟩,
      ⟨.var 4, 8, none, .mov (.c (.int .i64 (0)))⟩,
      ⟨.var 5, 9, none, .mov (.s 0)⟩])
   (.ret))
  (.skip))
 (.seq (.region false [
    ⟨.var 8, 12, none, .mov (.c (.int .i64 (0)))⟩])
 (.seq (.seq (.region false [
     ⟨.var 9, 13, none, .mov (.c (.int .i64 (0)))⟩])
  (.block 0 (.loop ir11_k0 ir11_o0 ir11_r0 ir11_b0)))
 (.seq (.region false [
    ⟨.push, 77, none, .mov (.v 8)⟩,
    ⟨.var 4, 8, none, .mov (.s 0)⟩,
    ⟨.var 5, 9, none, .mov (.c (.int .i64 (0)))⟩])
 (.ret))))))), [.t 4, .t 5]⟩
noncomputable def t_spec_SumOfWhat : List (Nat × Ctr) := [(33, c_spec_l27What), (34, c_spec_l27Day), (35, c_spec_l00In)]
theorem lk_spec_SumOfWhat_33 : look t_spec_SumOfWhat 33 = some c_spec_l27What := rfl
theorem lk_spec_SumOfWhat_34 : look t_spec_SumOfWhat 34 = some c_spec_l27Day := rfl
theorem lk_spec_SumOfWhat_35 : look t_spec_SumOfWhat 35 = some c_spec_l00In := rfl
noncomputable def c_spec_SumOfWhat : Ctr := mkF t_spec_SumOfWhat ir11 [.bor, .bor, .bor, .bor]
theorem s_spec_SumOfWhat : Sound Tryd.prog 11 c_spec_SumOfWhat := mkF_sound _ rfl (snd_cons s_spec_l27What (snd_cons s_spec_l27Day (snd_cons s_spec_l00In snd_nil))) (by kernel_rfl : chkFn Tryd.prog 11 ir11 ir11_v = true)
theorem M_spec_SumOfWhat : c_spec_SumOfWhat.modes = [.bor, .bor, .bor, .bor] := rfl
theorem Fl_spec_SumOfWhat : c_spec_SumOfWhat.flat = true := rfl
attribute [go_sem] M_spec_SumOfWhat Fl_spec_SumOfWhat
attribute [go_sem] lk_spec_SumOfWhat_33 lk_spec_SumOfWhat_34 lk_spec_SumOfWhat_35
def E_spec_SumOfWhat_l1 (what : List UInt8) (from_ : Int) (to_ : Int) (r : L27R) : (Int × Int) → St
  | (sum, i) => ⟨[.any, .str what, .int .i64 from_, .int .i64 to_, .any, .any, .ref 3200000 0 0, .any, .int .i64 sum, .int .i64 i], [], [(3200000, ⟨4, [L27R_av r]⟩)], true⟩
def R_spec_SumOfWhat_l1 (what : List UInt8) (from_ : Int) (to_ : Int) (r : L27R) (y : Int) : Res := (.exit 0, ⟨[.any, .any, .any, .any, .any, .any, .any, .any, .int .i64 y, .any], [], [], true⟩)
theorem spec_SumOfWhat_l1_ex {what : List UInt8} {from_ : Int} {to_ : Int} {r : L27R} {sgm_ : Int × Int} {rho_ : Int} (h : whileE (spec_SumOfWhat_l1 what from_ to_ r) sgm_ = some rho_) : ∃ L0, ∀ L, L0 ≤ L → iter (exec (look t_spec_SumOfWhat) L ir11_b0) ir11_k0 ir11_o0 ir11_r0 L (E_spec_SumOfWhat_l1 what from_ to_ r sgm_) = R_spec_SumOfWhat_l1 what from_ to_ r rho_ := by
  refine loop_ex (E := E_spec_SumOfWhat_l1 what from_ to_ r) (R := R_spec_SumOfWhat_l1 what from_ to_ r) (fun y => by first | (intro c; cases c) | (rcases y with y | y <;> (intro c; cases c)) | (rcases y with y | y | y <;> (intro c; cases c))) ?_ h
  clear h
  rintro ⟨sum, i⟩ o_ h
  dsimp only [spec_SumOfWhat_l1] at h
  rcases it_some h with ⟨hk6, h⟩ | ⟨hk6, h⟩
  · try simp only [go_sem, n1, n2, n3, n4] at hk6
    all_goals
    obtain ⟨hk7, h⟩ := ck_some h
    have lhk7 := ix_lt hk7
    have xhk7 := getD_mapD Entry_av r.list_ lhk7
    try simp only [go_sem] at lhk7
    try simp only [go_sem] at xhk7
    try simp only [go_sem, n1, n2, n3, n4, hk6] at hk7
    all_goals
    obtain ⟨hk8, h⟩ := ck_some h
    rcases or_split hk8 with ⟨ghk8, hk8⟩ | ghk8
    · try simp only [go_sem, n1, n2, n3, n4, hk6, hk7] at ghk8
      all_goals
      obtain ⟨y_8, hhk8⟩ := Option.isSome_iff_exists.1 hk8
      have fhk8 := Fs_spec_l00In hhk8
      try simp only [go_sem, hk6, hk7, ghk8] at fhk8
      rcases it_some h with ⟨hk9, h⟩ | ⟨hk9, h⟩
      · try simp only [go_sem, n1, n2, n3, n4, hk6, hk7, ghk8, hhk8] at hk9
        all_goals
        obtain rfl := so_some h
        refine ⟨0, fun L hL => ?_⟩
        simp only [go_sem, ir11, E_spec_SumOfWhat_l1, R_spec_SumOfWhat_l1, ir11_b0, ir11_k0, ir11_o0, ir11_r0, hk6, hk7, lhk7, xhk7, ghk8, hhk8, fhk8, hk9]
      · try simp only [go_sem, n1, n2, n3, n4, hk6, hk7, ghk8, hhk8] at hk9
        all_goals
        obtain rfl := so_some h
        refine ⟨0, fun L hL => ?_⟩
        simp only [go_sem, ir11, E_spec_SumOfWhat_l1, R_spec_SumOfWhat_l1, ir11_b0, ir11_k0, ir11_o0, ir11_r0, hk6, hk7, lhk7, xhk7, ghk8, hhk8, fhk8, hk9]
    · try simp only [go_sem, n1, n2, n3, n4, hk6, hk7] at ghk8
      all_goals
      rcases it_some h with ⟨hk9, h⟩ | ⟨hk9, h⟩
      · try simp only [go_sem, n1, n2, n3, n4, hk6, hk7, ghk8] at hk9
        all_goals
        obtain rfl := so_some h
        refine ⟨0, fun L hL => ?_⟩
        simp only [go_sem, ir11, E_spec_SumOfWhat_l1, R_spec_SumOfWhat_l1, ir11_b0, ir11_k0, ir11_o0, ir11_r0, hk6, hk7, lhk7, xhk7, ghk8, hk9]
      · try simp only [go_sem, n1, n2, n3, n4, hk6, hk7, ghk8] at hk9
        all_goals
        obtain rfl := so_some h
        refine ⟨0, fun L hL => ?_⟩
        simp only [go_sem, ir11, E_spec_SumOfWhat_l1, R_spec_SumOfWhat_l1, ir11_b0, ir11_k0, ir11_o0, ir11_r0, hk6, hk7, lhk7, xhk7, ghk8, hk9]
  · try simp only [go_sem, n1, n2, n3, n4] at hk6
    all_goals
    obtain rfl := so_some h
    refine ⟨0, fun L hL => ?_⟩
    simp only [go_sem, ir11, E_spec_SumOfWhat_l1, R_spec_SumOfWhat_l1, ir11_b0, ir11_k0, ir11_o0, ir11_r0, hk6]

def E_spec_SumOfWhat_l2 (what : List UInt8) (from_ : Int) (to_ : Int) (r : L27R) : (Int × Int) → St
  | (sum, i) => ⟨[.any, .str what, .int .i64 from_, .int .i64 to_, .any, .any, .ref 3200000 0 0, .any, .int .i64 sum, .int .i64 i], [], [(3200000, ⟨4, [L27R_av r]⟩)], true⟩
def R_spec_SumOfWhat_l2 (what : List UInt8) (from_ : Int) (to_ : Int) (r : L27R) (y : Int) : Res := (.exit 0, ⟨[.any, .any, .any, .any, .any, .any, .any, .any, .int .i64 y, .any], [], [], true⟩)
theorem spec_SumOfWhat_l2_ex {what : List UInt8} {from_ : Int} {to_ : Int} {r : L27R} {sgm_ : Int × Int} {rho_ : Int} (h : whileE (spec_SumOfWhat_l2 what from_ to_ r) sgm_ = some rho_) : ∃ L0, ∀ L, L0 ≤ L → iter (exec (look t_spec_SumOfWhat) L ir11_b0) ir11_k0 ir11_o0 ir11_r0 L (E_spec_SumOfWhat_l2 what from_ to_ r sgm_) = R_spec_SumOfWhat_l2 what from_ to_ r rho_ := by
  refine loop_ex (E := E_spec_SumOfWhat_l2 what from_ to_ r) (R := R_spec_SumOfWhat_l2 what from_ to_ r) (fun y => by first | (intro c; cases c) | (rcases y with y | y <;> (intro c; cases c)) | (rcases y with y | y | y <;> (intro c; cases c))) ?_ h
  clear h
  rintro ⟨sum, i⟩ o_ h
  dsimp only [spec_SumOfWhat_l2] at h
  rcases it_some h with ⟨hk12, h⟩ | ⟨hk12, h⟩
  · try simp only [go_sem, n1, n2, n3, n4] at hk12
    all_goals
    obtain ⟨hk13, h⟩ := ck_some h
    have lhk13 := ix_lt hk13
    have xhk13 := getD_mapD Entry_av r.list_ lhk13
    try simp only [go_sem] at lhk13
    try simp only [go_sem] at xhk13
    try simp only [go_sem, n1, n2, n3, n4, hk12] at hk13
    all_goals
    obtain ⟨hk14, h⟩ := ck_some h
    rcases or_split hk14 with ⟨ghk14, hk14⟩ | ghk14
    · try simp only [go_sem, n1, n2, n3, n4, hk12, hk13] at ghk14
      all_goals
      obtain ⟨y_14, hhk14⟩ := Option.isSome_iff_exists.1 hk14
      have fhk14 := Fs_spec_l00In hhk14
      try simp only [go_sem, hk12, hk13, ghk14] at fhk14
      rcases it_some h with ⟨hk15, h⟩ | ⟨hk15, h⟩
      · try simp only [go_sem, n1, n2, n3, n4, hk12, hk13, ghk14, hhk14] at hk15
        all_goals
        obtain rfl := so_some h
        refine ⟨0, fun L hL => ?_⟩
        simp only [go_sem, ir11, E_spec_SumOfWhat_l2, R_spec_SumOfWhat_l2, ir11_b0, ir11_k0, ir11_o0, ir11_r0, E_spec_SumOfWhat_l1, R_spec_SumOfWhat_l1, ir11_k0, ir11_o0, ir11_r0, hk12, hk13, lhk13, xhk13, ghk14, hhk14, fhk14, hk15]
      · try simp only [go_sem, n1, n2, n3, n4, hk12, hk13, ghk14, hhk14] at hk15
        all_goals
        obtain rfl := so_some h
        refine ⟨0, fun L hL => ?_⟩
        simp only [go_sem, ir11, E_spec_SumOfWhat_l2, R_spec_SumOfWhat_l2, ir11_b0, ir11_k0, ir11_o0, ir11_r0, E_spec_SumOfWhat_l1, R_spec_SumOfWhat_l1, ir11_k0, ir11_o0, ir11_r0, hk12, hk13, lhk13, xhk13, ghk14, hhk14, fhk14, hk15]
    · try simp only [go_sem, n1, n2, n3, n4, hk12, hk13] at ghk14
      all_goals
      rcases it_some h with ⟨hk15, h⟩ | ⟨hk15, h⟩
      · try simp only [go_sem, n1, n2, n3, n4, hk12, hk13, ghk14] at hk15
        all_goals
        obtain rfl := so_some h
        refine ⟨0, fun L hL => ?_⟩
        simp only [go_sem, ir11, E_spec_SumOfWhat_l2, R_spec_SumOfWhat_l2, ir11_b0, ir11_k0, ir11_o0, ir11_r0, E_spec_SumOfWhat_l1, R_spec_SumOfWhat_l1, ir11_k0, ir11_o0, ir11_r0, hk12, hk13, lhk13, xhk13, ghk14, hk15]
      · try simp only [go_sem, n1, n2, n3, n4, hk12, hk13, ghk14] at hk15
        all_goals
        obtain rfl := so_some h
        refine ⟨0, fun L hL => ?_⟩
        simp only [go_sem, ir11, E_spec_SumOfWhat_l2, R_spec_SumOfWhat_l2, ir11_b0, ir11_k0, ir11_o0, ir11_r0, E_spec_SumOfWhat_l1, R_spec_SumOfWhat_l1, ir11_k0, ir11_o0, ir11_r0, hk12, hk13, lhk13, xhk13, ghk14, hk15]
  · try simp only [go_sem, n1, n2, n3, n4] at hk12
    all_goals
    obtain rfl := so_some h
    refine ⟨0, fun L hL => ?_⟩
    simp only [go_sem, ir11, E_spec_SumOfWhat_l2, R_spec_SumOfWhat_l2, ir11_b0, ir11_k0, ir11_o0, ir11_r0, E_spec_SumOfWhat_l1, R_spec_SumOfWhat_l1, ir11_k0, ir11_o0, ir11_r0, hk12]

theorem Fs_spec_SumOfWhat {log : List UInt8} {what : List UInt8} {from_ : Int} {to_ : Int} {y_ : Int × Int} (h : spec_SumOfWhat log what from_ to_ = some y_) : c_spec_SumOfWhat.F [.str log, .str what, .int .i64 from_, .int .i64 to_] = ⟨true, .tup [.int .i64 y_.1, .int .i64 y_.2], [.any, .any, .any, .any]⟩ := by
  refine mkF_E rfl ?_
  dsimp only [spec_SumOfWhat] at h
  obtain ⟨y_1, hk1, h⟩ := bd_some h
  have fhk1 := Fs_spec_l27What hk1
  try simp only [go_sem] at fhk1
  obtain ⟨hk2, h⟩ := ck_some h
  rcases or_split hk2 with ⟨ghk2, hk2⟩ | ghk2
  · try simp only [go_sem, n1, n2, n3, n4] at ghk2
    all_goals
    obtain ⟨y_2, hhk2⟩ := Option.isSome_iff_exists.1 hk2
    have fhk2 := Fs_spec_l27Day hhk2
    try simp only [go_sem, ghk2] at fhk2
    obtain ⟨hk3, h⟩ := ck_some h
    rcases or_split hk3 with ⟨ghk3, hk3⟩ | ghk3
    · try simp only [go_sem, n1, n2, n3, n4, ghk2, hhk2] at ghk3
      all_goals
      obtain ⟨y_3, hhk3⟩ := Option.isSome_iff_exists.1 hk3
      have fhk3 := Fs_spec_l27Day hhk3
      try simp only [go_sem, ghk2, hhk2, ghk3] at fhk3
      rcases it_some h with ⟨hk4, h⟩ | ⟨hk4, h⟩
      · try simp only [go_sem, n1, n2, n3, n4, ghk2, hhk2, ghk3, hhk3] at hk4
        all_goals
        rcases it_some h with ⟨hk5, h⟩ | ⟨hk5, h⟩
        · try simp only [go_sem, n1, n2, n3, n4, ghk2, hhk2, ghk3, hhk3, hk4] at hk5
          all_goals
          obtain rfl := so_some h
          refine ⟨0, fun L hL => ?_⟩
          simp only [go_sem, ir11, E_spec_SumOfWhat_l1, R_spec_SumOfWhat_l1, ir11_k0, ir11_o0, ir11_r0, E_spec_SumOfWhat_l2, R_spec_SumOfWhat_l2, ir11_k0, ir11_o0, ir11_r0, fhk1, ghk2, hhk2, fhk2, ghk3, hhk3, fhk3, hk4, hk5]
        · try simp only [go_sem, n1, n2, n3, n4, ghk2, hhk2, ghk3, hhk3, hk4] at hk5
          all_goals
          obtain ⟨y_10, hk10, h⟩ := bd_some h
          obtain ⟨Lhk10, ehk10⟩ := spec_SumOfWhat_l1_ex hk10
          obtain rfl := so_some h
          refine ⟨Lhk10, fun L hL => ?_⟩
          have ehk10 := ehk10 L (by omega)
          try simp only [go_sem, E_spec_SumOfWhat_l1, R_spec_SumOfWhat_l1, ir11_k0, ir11_o0, ir11_r0, E_spec_SumOfWhat_l2, R_spec_SumOfWhat_l2, ir11_k0, ir11_o0, ir11_r0, ghk2, hhk2, ghk3, hhk3, hk4, hk5] at ehk10
          simp only [go_sem, ir11, E_spec_SumOfWhat_l1, R_spec_SumOfWhat_l1, ir11_k0, ir11_o0, ir11_r0, E_spec_SumOfWhat_l2, R_spec_SumOfWhat_l2, ir11_k0, ir11_o0, ir11_r0, fhk1, ghk2, hhk2, fhk2, ghk3, hhk3, fhk3, hk4, hk5, ehk10]
      · try simp only [go_sem, n1, n2, n3, n4, ghk2, hhk2, ghk3, hhk3] at hk4
        all_goals
        rcases it_some h with ⟨hk11, h⟩ | ⟨hk11, h⟩
        · try simp only [go_sem, n1, n2, n3, n4, ghk2, hhk2, ghk3, hhk3, hk4] at hk11
          all_goals
          obtain rfl := so_some h
          refine ⟨0, fun L hL => ?_⟩
          simp only [go_sem, ir11, E_spec_SumOfWhat_l1, R_spec_SumOfWhat_l1, ir11_k0, ir11_o0, ir11_r0, E_spec_SumOfWhat_l2, R_spec_SumOfWhat_l2, ir11_k0, ir11_o0, ir11_r0, fhk1, ghk2, hhk2, fhk2, ghk3, hhk3, fhk3, hk4, hk11]
        · try simp only [go_sem, n1, n2, n3, n4, ghk2, hhk2, ghk3, hhk3, hk4] at hk11
          all_goals
          obtain ⟨y_16, hk16, h⟩ := bd_some h
          obtain ⟨Lhk16, ehk16⟩ := spec_SumOfWhat_l2_ex hk16
          obtain rfl := so_some h
          refine ⟨Lhk16, fun L hL => ?_⟩
          have ehk16 := ehk16 L (by omega)
          try simp only [go_sem, E_spec_SumOfWhat_l1, R_spec_SumOfWhat_l1, ir11_k0, ir11_o0, ir11_r0, E_spec_SumOfWhat_l2, R_spec_SumOfWhat_l2, ir11_k0, ir11_o0, ir11_r0, ghk2, hhk2, ghk3, hhk3, hk4, hk11] at ehk16
          simp only [go_sem, ir11, E_spec_SumOfWhat_l1, R_spec_SumOfWhat_l1, ir11_k0, ir11_o0, ir11_r0, E_spec_SumOfWhat_l2, R_spec_SumOfWhat_l2, ir11_k0, ir11_o0, ir11_r0, fhk1, ghk2, hhk2, fhk2, ghk3, hhk3, fhk3, hk4, hk11, ehk16]
    · rcases and_f ghk3 with ghk3a | ⟨ghk3a, ghk3b⟩
      · try simp only [go_sem, n1, n2, n3, n4, ghk2, hhk2] at ghk3a
        all_goals
        rcases it_some h with ⟨hk4, h⟩ | ⟨hk4, h⟩
        · try simp only [go_sem, n1, n2, n3, n4, ghk2, hhk2, ghk3a] at hk4
          all_goals
          rcases it_some h with ⟨hk5, h⟩ | ⟨hk5, h⟩
          · try simp only [go_sem, n1, n2, n3, n4, ghk2, hhk2, ghk3a, hk4] at hk5
            all_goals
            obtain rfl := so_some h
            refine ⟨0, fun L hL => ?_⟩
            simp only [go_sem, ir11, E_spec_SumOfWhat_l1, R_spec_SumOfWhat_l1, ir11_k0, ir11_o0, ir11_r0, E_spec_SumOfWhat_l2, R_spec_SumOfWhat_l2, ir11_k0, ir11_o0, ir11_r0, fhk1, ghk2, hhk2, fhk2, ghk3a, hk4, hk5]
          · try simp only [go_sem, n1, n2, n3, n4, ghk2, hhk2, ghk3a, hk4] at hk5
            all_goals
            obtain ⟨y_10, hk10, h⟩ := bd_some h
            obtain ⟨Lhk10, ehk10⟩ := spec_SumOfWhat_l1_ex hk10
            obtain rfl := so_some h
            refine ⟨Lhk10, fun L hL => ?_⟩
            have ehk10 := ehk10 L (by omega)
            try simp only [go_sem, E_spec_SumOfWhat_l1, R_spec_SumOfWhat_l1, ir11_k0, ir11_o0, ir11_r0, E_spec_SumOfWhat_l2, R_spec_SumOfWhat_l2, ir11_k0, ir11_o0, ir11_r0, ghk2, hhk2, ghk3a, hk4, hk5] at ehk10
            simp only [go_sem, ir11, E_spec_SumOfWhat_l1, R_spec_SumOfWhat_l1, ir11_k0, ir11_o0, ir11_r0, E_spec_SumOfWhat_l2, R_spec_SumOfWhat_l2, ir11_k0, ir11_o0, ir11_r0, fhk1, ghk2, hhk2, fhk2, ghk3a, hk4, hk5, ehk10]
        · try simp only [go_sem, n1, n2, n3, n4, ghk2, hhk2, ghk3a] at hk4
          all_goals
          rcases it_some h with ⟨hk11, h⟩ | ⟨hk11, h⟩
          · try simp only [go_sem, n1, n2, n3, n4, ghk2, hhk2, ghk3a, hk4] at hk11
            all_goals
            obtain rfl := so_some h
            refine ⟨0, fun L hL => ?_⟩
            simp only [go_sem, ir11, E_spec_SumOfWhat_l1, R_spec_SumOfWhat_l1, ir11_k0, ir11_o0, ir11_r0, E_spec_SumOfWhat_l2, R_spec_SumOfWhat_l2, ir11_k0, ir11_o0, ir11_r0, fhk1, ghk2, hhk2, fhk2, ghk3a, hk4, hk11]
          · try simp only [go_sem, n1, n2, n3, n4, ghk2, hhk2, ghk3a, hk4] at hk11
            all_goals
            obtain ⟨y_16, hk16, h⟩ := bd_some h
            obtain ⟨Lhk16, ehk16⟩ := spec_SumOfWhat_l2_ex hk16
            obtain rfl := so_some h
            refine ⟨Lhk16, fun L hL => ?_⟩
            have ehk16 := ehk16 L (by omega)
            try simp only [go_sem, E_spec_SumOfWhat_l1, R_spec_SumOfWhat_l1, ir11_k0, ir11_o0, ir11_r0, E_spec_SumOfWhat_l2, R_spec_SumOfWhat_l2, ir11_k0, ir11_o0, ir11_r0, ghk2, hhk2, ghk3a, hk4, hk11] at ehk16
            simp only [go_sem, ir11, E_spec_SumOfWhat_l1, R_spec_SumOfWhat_l1, ir11_k0, ir11_o0, ir11_r0, E_spec_SumOfWhat_l2, R_spec_SumOfWhat_l2, ir11_k0, ir11_o0, ir11_r0, fhk1, ghk2, hhk2, fhk2, ghk3a, hk4, hk11, ehk16]
      · have ghk3bn := no_f ghk3b
        have ghk3bnn := no_t ghk3bn
        try simp only [go_sem, n1, n2, n3, n4, ghk2, hhk2] at ghk3a
        all_goals
        try simp only [go_sem, n1, n2, n3, n4, ghk2, hhk2, ghk3a] at ghk3bnn
        all_goals
        rcases it_some h with ⟨hk4, h⟩ | ⟨hk4, h⟩
        · try simp only [go_sem, n1, n2, n3, n4, ghk2, hhk2, ghk3a, ghk3bnn] at hk4
          all_goals
          rcases it_some h with ⟨hk5, h⟩ | ⟨hk5, h⟩
          · try simp only [go_sem, n1, n2, n3, n4, ghk2, hhk2, ghk3a, ghk3bnn, hk4] at hk5
            all_goals
            obtain rfl := so_some h
            refine ⟨0, fun L hL => ?_⟩
            simp only [go_sem, ir11, E_spec_SumOfWhat_l1, R_spec_SumOfWhat_l1, ir11_k0, ir11_o0, ir11_r0, E_spec_SumOfWhat_l2, R_spec_SumOfWhat_l2, ir11_k0, ir11_o0, ir11_r0, fhk1, ghk2, hhk2, fhk2, ghk3a, ghk3bnn, hk4, hk5]
          · try simp only [go_sem, n1, n2, n3, n4, ghk2, hhk2, ghk3a, ghk3bnn, hk4] at hk5
            all_goals
            obtain ⟨y_10, hk10, h⟩ := bd_some h
            obtain ⟨Lhk10, ehk10⟩ := spec_SumOfWhat_l1_ex hk10
            obtain rfl := so_some h
            refine ⟨Lhk10, fun L hL => ?_⟩
            have ehk10 := ehk10 L (by omega)
            try simp only [go_sem, E_spec_SumOfWhat_l1, R_spec_SumOfWhat_l1, ir11_k0, ir11_o0, ir11_r0, E_spec_SumOfWhat_l2, R_spec_SumOfWhat_l2, ir11_k0, ir11_o0, ir11_r0, ghk2, hhk2, ghk3a, ghk3bnn, hk4, hk5] at ehk10
            simp only [go_sem, ir11, E_spec_SumOfWhat_l1, R_spec_SumOfWhat_l1, ir11_k0, ir11_o0, ir11_r0, E_spec_SumOfWhat_l2, R_spec_SumOfWhat_l2, ir11_k0, ir11_o0, ir11_r0, fhk1, ghk2, hhk2, fhk2, ghk3a, ghk3bnn, hk4, hk5, ehk10]
        · try simp only [go_sem, n1, n2, n3, n4, ghk2, hhk2, ghk3a, ghk3bnn] at hk4
          all_goals
          rcases it_some h with ⟨hk11, h⟩ | ⟨hk11, h⟩
          · try simp only [go_sem, n1, n2, n3, n4, ghk2, hhk2, ghk3a, ghk3bnn, hk4] at hk11
            all_goals
            obtain rfl := so_some h
            refine ⟨0, fun L hL => ?_⟩
            simp only [go_sem, ir11, E_spec_SumOfWhat_l1, R_spec_SumOfWhat_l1, ir11_k0, ir11_o0, ir11_r0, E_spec_SumOfWhat_l2, R_spec_SumOfWhat_l2, ir11_k0, ir11_o0, ir11_r0, fhk1, ghk2, hhk2, fhk2, ghk3a, ghk3bnn, hk4, hk11]
          · try simp only [go_sem, n1, n2, n3, n4, ghk2, hhk2, ghk3a, ghk3bnn, hk4] at hk11
            all_goals
            obtain ⟨y_16, hk16, h⟩ := bd_some h
            obtain ⟨Lhk16, ehk16⟩ := spec_SumOfWhat_l2_ex hk16
            obtain rfl := so_some h
            refine ⟨Lhk16, fun L hL => ?_⟩
            have ehk16 := ehk16 L (by omega)
            try simp only [go_sem, E_spec_SumOfWhat_l1, R_spec_SumOfWhat_l1, ir11_k0, ir11_o0, ir11_r0, E_spec_SumOfWhat_l2, R_spec_SumOfWhat_l2, ir11_k0, ir11_o0, ir11_r0, ghk2, hhk2, ghk3a, ghk3bnn, hk4, hk11] at ehk16
            simp only [go_sem, ir11, E_spec_SumOfWhat_l1, R_spec_SumOfWhat_l1, ir11_k0, ir11_o0, ir11_r0, E_spec_SumOfWhat_l2, R_spec_SumOfWhat_l2, ir11_k0, ir11_o0, ir11_r0, fhk1, ghk2, hhk2, fhk2, ghk3a, ghk3bnn, hk4, hk11, ehk16]
  · try simp only [go_sem, n1, n2, n3, n4] at ghk2
    all_goals
    obtain ⟨hk3, h⟩ := ck_some h
    rcases or_split hk3 with ⟨ghk3, hk3⟩ | ghk3
    · try simp only [go_sem, n1, n2, n3, n4, ghk2] at ghk3
      all_goals
      obtain ⟨y_3, hhk3⟩ := Option.isSome_iff_exists.1 hk3
      have fhk3 := Fs_spec_l27Day hhk3
      try simp only [go_sem, ghk2, ghk3] at fhk3
      rcases it_some h with ⟨hk4, h⟩ | ⟨hk4, h⟩
      · try simp only [go_sem, n1, n2, n3, n4, ghk2, ghk3, hhk3] at hk4
        all_goals
        rcases it_some h with ⟨hk5, h⟩ | ⟨hk5, h⟩
        · try simp only [go_sem, n1, n2, n3, n4, ghk2, ghk3, hhk3, hk4] at hk5
          all_goals
          obtain rfl := so_some h
          refine ⟨0, fun L hL => ?_⟩
          simp only [go_sem, ir11, E_spec_SumOfWhat_l1, R_spec_SumOfWhat_l1, ir11_k0, ir11_o0, ir11_r0, E_spec_SumOfWhat_l2, R_spec_SumOfWhat_l2, ir11_k0, ir11_o0, ir11_r0, fhk1, ghk2, ghk3, hhk3, fhk3, hk4, hk5]
        · try simp only [go_sem, n1, n2, n3, n4, ghk2, ghk3, hhk3, hk4] at hk5
          all_goals
          obtain ⟨y_10, hk10, h⟩ := bd_some h
          obtain ⟨Lhk10, ehk10⟩ := spec_SumOfWhat_l1_ex hk10
          obtain rfl := so_some h
          refine ⟨Lhk10, fun L hL => ?_⟩
          have ehk10 := ehk10 L (by omega)
          try simp only [go_sem, E_spec_SumOfWhat_l1, R_spec_SumOfWhat_l1, ir11_k0, ir11_o0, ir11_r0, E_spec_SumOfWhat_l2, R_spec_SumOfWhat_l2, ir11_k0, ir11_o0, ir11_r0, ghk2, ghk3, hhk3, hk4, hk5] at ehk10
          simp only [go_sem, ir11, E_spec_SumOfWhat_l1, R_spec_SumOfWhat_l1, ir11_k0, ir11_o0, ir11_r0, E_spec_SumOfWhat_l2, R_spec_SumOfWhat_l2, ir11_k0, ir11_o0, ir11_r0, fhk1, ghk2, ghk3, hhk3, fhk3, hk4, hk5, ehk10]
      · try simp only [go_sem, n1, n2, n3, n4, ghk2, ghk3, hhk3] at hk4
        all_goals
        rcases it_some h with ⟨hk11, h⟩ | ⟨hk11, h⟩
        · try simp only [go_sem, n1, n2, n3, n4, ghk2, ghk3, hhk3, hk4] at hk11
          all_goals
          obtain rfl := so_some h
          refine ⟨0, fun L hL => ?_⟩
          simp only [go_sem, ir11, E_spec_SumOfWhat_l1, R_spec_SumOfWhat_l1, ir11_k0, ir11_o0, ir11_r0, E_spec_SumOfWhat_l2, R_spec_SumOfWhat_l2, ir11_k0, ir11_o0, ir11_r0, fhk1, ghk2, ghk3, hhk3, fhk3, hk4, hk11]
        · try simp only [go_sem, n1, n2, n3, n4, ghk2, ghk3, hhk3, hk4] at hk11
          all_goals
          obtain ⟨y_16, hk16, h⟩ := bd_some h
          obtain ⟨Lhk16, ehk16⟩ := spec_SumOfWhat_l2_ex hk16
          obtain rfl := so_some h
          refine ⟨Lhk16, fun L hL => ?_⟩
          have ehk16 := ehk16 L (by omega)
          try simp only [go_sem, E_spec_SumOfWhat_l1, R_spec_SumOfWhat_l1, ir11_k0, ir11_o0, ir11_r0, E_spec_SumOfWhat_l2, R_spec_SumOfWhat_l2, ir11_k0, ir11_o0, ir11_r0, ghk2, ghk3, hhk3, hk4, hk11] at ehk16
          simp only [go_sem, ir11, E_spec_SumOfWhat_l1, R_spec_SumOfWhat_l1, ir11_k0, ir11_o0, ir11_r0, E_spec_SumOfWhat_l2, R_spec_SumOfWhat_l2, ir11_k0, ir11_o0, ir11_r0, fhk1, ghk2, ghk3, hhk3, fhk3, hk4, hk11, ehk16]
    · rcases and_f ghk3 with ghk3a | ⟨ghk3a, ghk3b⟩
      · try simp only [go_sem, n1, n2, n3, n4, ghk2] at ghk3a
        all_goals
        rcases it_some h with ⟨hk4, h⟩ | ⟨hk4, h⟩
        · try simp only [go_sem, n1, n2, n3, n4, ghk2, ghk3a] at hk4
          all_goals
          rcases it_some h with ⟨hk5, h⟩ | ⟨hk5, h⟩
          · try simp only [go_sem, n1, n2, n3, n4, ghk2, ghk3a, hk4] at hk5
            all_goals
            obtain rfl := so_some h
            refine ⟨0, fun L hL => ?_⟩
            simp only [go_sem, ir11, E_spec_SumOfWhat_l1, R_spec_SumOfWhat_l1, ir11_k0, ir11_o0, ir11_r0, E_spec_SumOfWhat_l2, R_spec_SumOfWhat_l2, ir11_k0, ir11_o0, ir11_r0, fhk1, ghk2, ghk3a, hk4, hk5]
          · try simp only [go_sem, n1, n2, n3, n4, ghk2, ghk3a, hk4] at hk5
            all_goals
            obtain ⟨y_10, hk10, h⟩ := bd_some h
            obtain ⟨Lhk10, ehk10⟩ := spec_SumOfWhat_l1_ex hk10
            obtain rfl := so_some h
            refine ⟨Lhk10, fun L hL => ?_⟩
            have ehk10 := ehk10 L (by omega)
            try simp only [go_sem, E_spec_SumOfWhat_l1, R_spec_SumOfWhat_l1, ir11_k0, ir11_o0, ir11_r0, E_spec_SumOfWhat_l2, R_spec_SumOfWhat_l2, ir11_k0, ir11_o0, ir11_r0, ghk2, ghk3a, hk4, hk5] at ehk10
            simp only [go_sem, ir11, E_spec_SumOfWhat_l1, R_spec_SumOfWhat_l1, ir11_k0, ir11_o0, ir11_r0, E_spec_SumOfWhat_l2, R_spec_SumOfWhat_l2, ir11_k0, ir11_o0, ir11_r0, fhk1, ghk2, ghk3a, hk4, hk5, ehk10]
        · try simp only [go_sem, n1, n2, n3, n4, ghk2, ghk3a] at hk4
          all_goals
          rcases it_some h with ⟨hk11, h⟩ | ⟨hk11, h⟩
          · try simp only [go_sem, n1, n2, n3, n4, ghk2, ghk3a, hk4] at hk11
            all_goals
            obtain rfl := so_some h
            refine ⟨0, fun L hL => ?_⟩
            simp only [go_sem, ir11, E_spec_SumOfWhat_l1, R_spec_SumOfWhat_l1, ir11_k0, ir11_o0, ir11_r0, E_spec_SumOfWhat_l2, R_spec_SumOfWhat_l2, ir11_k0, ir11_o0, ir11_r0, fhk1, ghk2, ghk3a, hk4, hk11]
          · try simp only [go_sem, n1, n2, n3, n4, ghk2, ghk3a, hk4] at hk11
            all_goals
            obtain ⟨y_16, hk16, h⟩ := bd_some h
            obtain ⟨Lhk16, ehk16⟩ := spec_SumOfWhat_l2_ex hk16
            obtain rfl := so_some h
            refine ⟨Lhk16, fun L hL => ?_⟩
            have ehk16 := ehk16 L (by omega)
            try simp only [go_sem, E_spec_SumOfWhat_l1, R_spec_SumOfWhat_l1, ir11_k0, ir11_o0, ir11_r0, E_spec_SumOfWhat_l2, R_spec_SumOfWhat_l2, ir11_k0, ir11_o0, ir11_r0, ghk2, ghk3a, hk4, hk11] at ehk16
            simp only [go_sem, ir11, E_spec_SumOfWhat_l1, R_spec_SumOfWhat_l1, ir11_k0, ir11_o0, ir11_r0, E_spec_SumOfWhat_l2, R_spec_SumOfWhat_l2, ir11_k0, ir11_o0, ir11_r0, fhk1, ghk2, ghk3a, hk4, hk11, ehk16]
      · have ghk3bn := no_f ghk3b
        have ghk3bnn := no_t ghk3bn
        try simp only [go_sem, n1, n2, n3, n4, ghk2] at ghk3a
        all_goals
        try simp only [go_sem, n1, n2, n3, n4, ghk2, ghk3a] at ghk3bnn
        all_goals
        rcases it_some h with ⟨hk4, h⟩ | ⟨hk4, h⟩
        · try simp only [go_sem, n1, n2, n3, n4, ghk2, ghk3a, ghk3bnn] at hk4
          all_goals
          rcases it_some h with ⟨hk5, h⟩ | ⟨hk5, h⟩
          · try simp only [go_sem, n1, n2, n3, n4, ghk2, ghk3a, ghk3bnn, hk4] at hk5
            all_goals
            obtain rfl := so_some h
            refine ⟨0, fun L hL => ?_⟩
            simp only [go_sem, ir11, E_spec_SumOfWhat_l1, R_spec_SumOfWhat_l1, ir11_k0, ir11_o0, ir11_r0, E_spec_SumOfWhat_l2, R_spec_SumOfWhat_l2, ir11_k0, ir11_o0, ir11_r0, fhk1, ghk2, ghk3a, ghk3bnn, hk4, hk5]
          · try simp only [go_sem, n1, n2, n3, n4, ghk2, ghk3a, ghk3bnn, hk4] at hk5
            all_goals
            obtain ⟨y_10, hk10, h⟩ := bd_some h
            obtain ⟨Lhk10, ehk10⟩ := spec_SumOfWhat_l1_ex hk10
            obtain rfl := so_some h
            refine ⟨Lhk10, fun L hL => ?_⟩
            have ehk10 := ehk10 L (by omega)
            try simp only [go_sem, E_spec_SumOfWhat_l1, R_spec_SumOfWhat_l1, ir11_k0, ir11_o0, ir11_r0, E_spec_SumOfWhat_l2, R_spec_SumOfWhat_l2, ir11_k0, ir11_o0, ir11_r0, ghk2, ghk3a, ghk3bnn, hk4, hk5] at ehk10
            simp only [go_sem, ir11, E_spec_SumOfWhat_l1, R_spec_SumOfWhat_l1, ir11_k0, ir11_o0, ir11_r0, E_spec_SumOfWhat_l2, R_spec_SumOfWhat_l2, ir11_k0, ir11_o0, ir11_r0, fhk1, ghk2, ghk3a, ghk3bnn, hk4, hk5, ehk10]
        · try simp only [go_sem, n1, n2, n3, n4, ghk2, ghk3a, ghk3bnn] at hk4
          all_goals
          rcases it_some h with ⟨hk11, h⟩ | ⟨hk11, h⟩
          · try simp only [go_sem, n1, n2, n3, n4, ghk2, ghk3a, ghk3bnn, hk4] at hk11
            all_goals
            obtain rfl := so_some h
            refine ⟨0, fun L hL => ?_⟩
            simp only [go_sem, ir11, E_spec_SumOfWhat_l1, R_spec_SumOfWhat_l1, ir11_k0, ir11_o0, ir11_r0, E_spec_SumOfWhat_l2, R_spec_SumOfWhat_l2, ir11_k0, ir11_o0, ir11_r0, fhk1, ghk2, ghk3a, ghk3bnn, hk4, hk11]
          · try simp only [go_sem, n1, n2, n3, n4, ghk2, ghk3a, ghk3bnn, hk4] at hk11
            all_goals
            obtain ⟨y_16, hk16, h⟩ := bd_some h
            obtain ⟨Lhk16, ehk16⟩ := spec_SumOfWhat_l2_ex hk16
            obtain rfl := so_some h
            refine ⟨Lhk16, fun L hL => ?_⟩
            have ehk16 := ehk16 L (by omega)
            try simp only [go_sem, E_spec_SumOfWhat_l1, R_spec_SumOfWhat_l1, ir11_k0, ir11_o0, ir11_r0, E_spec_SumOfWhat_l2, R_spec_SumOfWhat_l2, ir11_k0, ir11_o0, ir11_r0, ghk2, ghk3a, ghk3bnn, hk4, hk11] at ehk16
            simp only [go_sem, ir11, E_spec_SumOfWhat_l1, R_spec_SumOfWhat_l1, ir11_k0, ir11_o0, ir11_r0, E_spec_SumOfWhat_l2, R_spec_SumOfWhat_l2, ir11_k0, ir11_o0, ir11_r0, fhk1, ghk2, ghk3a, ghk3bnn, hk4, hk11, ehk16]


def ir19_v : List Nat := [0, 2, 3, 4, 6]
def ir19 : AFn := ⟨1, 5, .seq (.region false [
    ⟨.var 1, 2, none, .newnil 3⟩,
    ⟨.var 2, 3, none, .mov (.c (.int .i64 (0)))⟩])
 (.seq (.region false [
    ⟨.push, 8, none, .mov (.v 0)⟩,
    ⟨.push, 9, none, .call 29 [(.s 0)]⟩,
    ⟨.push, 7, none, .mov (.s 0)⟩,
    ⟨.push, 10, none, .ext (.s 0) 0⟩,
    ⟨.push, 11, none, .ext (.s 1) 1⟩,
    ⟨.push, 12, none, .ext (.s 2) 2⟩,
    ⟨.var 3, 4, none, .mov (.s 2)⟩,
    ⟨.push, 5, none, .mov (.s 1)⟩,
    ⟨.var 4, 6, none, .mov (.s 1)⟩])
 (.seq (.region false [
    ⟨.push, 13, none, .mov (.v 3)⟩,
    ⟨.push, 14, none, .mov (.v 4)⟩,
    ⟨.var 1, 2, none, .mov (.s 1)⟩,
    ⟨.var 2, 3, none, .mov (.s 0)⟩])
 (.ret))), [.t 1, .t 2]⟩
noncomputable def t_impl_EntriesOf : List (Nat × Ctr) := [(29, c_impl_wholeLog)]
theorem lk_impl_EntriesOf_29 : look t_impl_EntriesOf 29 = some c_impl_wholeLog := rfl
noncomputable def c_impl_EntriesOf : Ctr := mkF t_impl_EntriesOf ir19 [.bor]
theorem s_impl_EntriesOf : Sound Tryd.prog 19 c_impl_EntriesOf := mkF_sound _ rfl (snd_cons s_impl_wholeLog snd_nil) (by kernel_rfl : chkFn Tryd.prog 19 ir19 ir19_v = true)
theorem M_impl_EntriesOf : c_impl_EntriesOf.modes = [.bor] := rfl
theorem Fl_impl_EntriesOf : c_impl_EntriesOf.flat = true := rfl
attribute [go_sem] M_impl_EntriesOf Fl_impl_EntriesOf
attribute [go_sem] lk_impl_EntriesOf_29
theorem Fs_impl_EntriesOf {log : List UInt8} {y_ : (List Entry) × Int} (h : impl_EntriesOf log = some y_) : c_impl_EntriesOf.F [.str log] = ⟨true, .tup [.fresh 3 (List.map Entry_av y_.1), .int .i64 y_.2], [.any]⟩ := by
  refine mkF_E (by simp only [flatA, flatB, flat1, List.all_cons, List.all_nil, Bool.and_self, flatE_map (f := Entry_av) (fun _ => rfl)]) ?_
  dsimp only [impl_EntriesOf] at h
  obtain ⟨y_1, hk1, h⟩ := bd_some h
  have fhk1 := Fs_impl_wholeLog hk1
  try simp only [go_sem] at fhk1
  obtain rfl := so_some h
  refine ⟨0, fun L hL => ?_⟩
  simp only [go_sem, ir19, fhk1]


def ir40_v : List Nat := [0, 1, 2, 3, 4, 5]
def ir40 : AFn := ⟨4, 6, .seq (.region false [
    ⟨.var 4, 4, none, .box (.v 0)⟩,
    ⟨.var 5, 5, none, .mov (.c (.bool false))⟩])
 (.seq (.region false [
    ⟨.push, 6, none, .fldAddr 1 (.v 4)⟩,
    ⟨.push, 7, none, .load false 1 (.s 0)⟩,
    ⟨.push, 8, none, .load false 1 (.v 1)⟩,
    ⟨.push, 9, none, .bin false .eql (.s 1) (.s 0)⟩,
    ⟨.push, 10, none, .mov (.s 0)⟩,
    ⟨.push, 11, (some ((.s 0), true)), .fldAddr 0 (.v 4)⟩,
    ⟨.push, 12, (some ((.s 1), true)), .load false 1 (.s 0)⟩,
    ⟨.push, 13, (some ((.s 2), true)), .load false 1 (.v 2)⟩,
    ⟨.push, 14, (some ((.s 3), true)), .load false 1 (.v 3)⟩,
    ⟨.push, 15, (some ((.s 4), true)), .call 37 [(.s 2), (.s 1), (.s 0)]⟩,
    ⟨.push, 16, none, .pick (.s 5) (.s 0) (.c (.bool false))⟩,
    ⟨.var 5, 5, none, .mov (.s 0)⟩])
 (.ret)), [.t 5]⟩
noncomputable def t_impl_SumOfWhat_c1 : List (Nat × Ctr) := [(37, c_impl_in)]
theorem lk_impl_SumOfWhat_c1_37 : look t_impl_SumOfWhat_c1 37 = some c_impl_in := rfl
noncomputable def c_impl_SumOfWhat_c1 : Ctr := mkF t_impl_SumOfWhat_c1 ir40 [.bor, .bor, .bor, .bor]
theorem s_impl_SumOfWhat_c1 : Sound Tryd.prog 40 c_impl_SumOfWhat_c1 := mkF_sound _ rfl (snd_cons s_impl_in snd_nil) (by kernel_rfl : chkFn Tryd.prog 40 ir40 ir40_v = true)
theorem M_impl_SumOfWhat_c1 : c_impl_SumOfWhat_c1.modes = [.bor, .bor, .bor, .bor] := rfl
theorem Fl_impl_SumOfWhat_c1 : c_impl_SumOfWhat_c1.flat = true := rfl
attribute [go_sem] M_impl_SumOfWhat_c1 Fl_impl_SumOfWhat_c1
attribute [go_sem] lk_impl_SumOfWhat_c1_37
theorem Fs_impl_SumOfWhat_c1 {e_ : Entry} {t1 : List UInt8} {t2 : Int} {t3 : Int} {y_ : Bool} (h : impl_SumOfWhat_c1 e_ t1 t2 t3 = some y_) : c_impl_SumOfWhat_c1.F [Entry_av e_, .ptr 1 [.str t1] 0 0, .ptr 1 [.int .i64 t2] 0 0, .ptr 1 [.int .i64 t3] 0 0] = ⟨true, .bool y_, [.any, .any, .any, .any]⟩ := by
  refine mkF_E rfl ?_
  dsimp only [impl_SumOfWhat_c1] at h
  obtain ⟨hk1, h⟩ := ck_some h
  rcases or_split hk1 with ⟨ghk1, hk1⟩ | ghk1
  · try simp only [go_sem, n1, n2, n3, n4] at ghk1
    all_goals
    obtain ⟨y_1, hhk1⟩ := Option.isSome_iff_exists.1 hk1
    have fhk1 := Fs_impl_in hhk1
    try simp only [go_sem, ghk1] at fhk1
    obtain rfl := so_some h
    refine ⟨0, fun L hL => ?_⟩
    simp only [go_sem, ir40, ghk1, hhk1, fhk1]
  · try simp only [go_sem, n1, n2, n3, n4] at ghk1
    all_goals
    obtain rfl := so_some h
    refine ⟨0, fun L hL => ?_⟩
    simp only [go_sem, ir40, ghk1]


def ir39_b0 : IR := .seq (.region false [
    ⟨.var 8, 12, none, .bin false .lss (.v 7) (.v 6)⟩])
 (.seq (.cond (.v 8) (.skip)
  (.exit 0))
 (.seq (.block 1 (.seq (.region false [
      ⟨.push, 13, none, .ixAddr 3 (.v 5) (.v 7)⟩,
      ⟨.push, 14, none, .load true 3 (.s 0)⟩,
      ⟨.var 4, 7, none, .alloc (.agg [.int .i64 (0), .str [], .int .i64 (0)])⟩,
      ⟨.no, 0, none, .store 3 (.v 4) (.s 0)⟩])
   (.test false [
     ⟨.push, 15, none, .mov (.v 1)⟩,
     ⟨.push, 16, none, .load true 3 (.v 4)⟩,
     ⟨.push, 17, none, .callv (.s 1) [(.s 0)]⟩] (.s 0)
   (.region false [
      ⟨.push, 18, none, .mov (.v 3)⟩,
      ⟨.push, 19, none, .fldAddr 2 (.v 4)⟩,
      ⟨.push, 20, none, .load false 1 (.s 0)⟩,
      ⟨.push, 21, none, .mkSl 1 (.int .i64 (0)) 1 [(0, (.s 0))]⟩,
      ⟨.push, 22, none, .app 1 8 (.int .i64 (0)) (.s 3) (.s 0)⟩,
      ⟨.var 3, 5, none, .mov (.s 0)⟩])
   (.skip))))
 (.region false [
   ⟨.push, 23, none, .bin false .add (.v 7) (.c (.int .i64 (1)))⟩,
   ⟨.var 7, 11, none, .mov (.s 0)⟩])))
def ir39_k0 : List Bool := [false, true, false, true, false, true, true, true, false]
def ir39_o0 : List Bool := [false, false, false, true, false, false, false, false, false]
def ir39_r0 : List Bool := [false, false, true, false, false, false, false, false, false]
def ir39_v : List Nat := [0, 1, 4, 5, 7, 9, 10, 11, 12]
def ir39 : AFn := ⟨2, 9, .seq (.region false [
    ⟨.var 2, 4, none, .newnil 1⟩])
 (.seq (.region false [
    ⟨.push, 8, none, .mkSl 1 (.int .i64 (0)) 0 []⟩,
    ⟨.var 3, 5, none, .mov (.s 0)⟩])
 (.seq (.seq (.region false [
     ⟨.var 5, 9, none, .mov (.v 0)⟩,
     ⟨.var 6, 10, none, .len false (.v 5)⟩,
     ⟨.var 7, 11, none, .mov (.c (.int .i64 (0)))⟩])
  (.block 0 (.loop ir39_k0 ir39_o0 ir39_r0 ir39_b0)))
 (.seq (.region false [
    ⟨.push, 24, none, .mov (.v 3)⟩,
    ⟨.var 2, 4, none, .mov (.s 0)⟩])
 (.ret)))), [.t 2]⟩
noncomputable def t_impl_valuesOf__impl_SumOfWhat_c1 : List (Nat × Ctr) := [(40, c_impl_SumOfWhat_c1)]
theorem lk_impl_valuesOf__impl_SumOfWhat_c1_40 : look t_impl_valuesOf__impl_SumOfWhat_c1 40 = some c_impl_SumOfWhat_c1 := rfl
noncomputable def c_impl_valuesOf__impl_SumOfWhat_c1 : Ctr := mkF t_impl_valuesOf__impl_SumOfWhat_c1 ir39 [.bor, .bor]
theorem s_impl_valuesOf__impl_SumOfWhat_c1 : Sound Tryd.prog 39 c_impl_valuesOf__impl_SumOfWhat_c1 := mkF_sound _ rfl (snd_cons s_impl_SumOfWhat_c1 snd_nil) (by kernel_rfl : chkFn Tryd.prog 39 ir39 ir39_v = true)
theorem M_impl_valuesOf__impl_SumOfWhat_c1 : c_impl_valuesOf__impl_SumOfWhat_c1.modes = [.bor, .bor] := rfl
theorem Fl_impl_valuesOf__impl_SumOfWhat_c1 : c_impl_valuesOf__impl_SumOfWhat_c1.flat = true := rfl
attribute [go_sem] M_impl_valuesOf__impl_SumOfWhat_c1 Fl_impl_valuesOf__impl_SumOfWhat_c1
attribute [go_sem] lk_impl_valuesOf__impl_SumOfWhat_c1_40
def E_impl_valuesOf__impl_SumOfWhat_c1_l1 (c : List UInt8) (c2 : Int) (c3 : Int) (t9 : List Entry) (t10 : Int) : ((List Int) × Int) → St
  | (out, t11) => ⟨[.any, .fn (.func 40) [] [.ptr 1 [.str c] 0 0, .ptr 1 [.int .i64 c2] 0 0, .ptr 1 [.int .i64 c3] 0 0], .any, .own 3200000, .any, .sl 3 (List.map Entry_av t9), .int .i64 t10, .int .i64 t11, .any], [], [(3200000, ⟨1, List.map (AV.int .i64) out⟩)], true⟩
def R_impl_valuesOf__impl_SumOfWhat_c1_l1 (c : List UInt8) (c2 : Int) (c3 : Int) (t9 : List Entry) (t10 : Int) (y : (List Int)) : Res := (.exit 0, ⟨[.any, .any, .any, .own 3200000, .any, .any, .any, .any, .any], [], [(3200000, ⟨1, List.map (AV.int .i64) y⟩)], true⟩)
theorem impl_valuesOf__impl_SumOfWhat_c1_l1_ex {c : List UInt8} {c2 : Int} {c3 : Int} {t9 : List Entry} {t10 : Int} {sgm_ : (List Int) × Int} {rho_ : (List Int)} (h : whileE (impl_valuesOf__impl_SumOfWhat_c1_l1 c c2 c3 t9 t10) sgm_ = some rho_) : ∃ L0, ∀ L, L0 ≤ L → iter (exec (look t_impl_valuesOf__impl_SumOfWhat_c1) L ir39_b0) ir39_k0 ir39_o0 ir39_r0 L (E_impl_valuesOf__impl_SumOfWhat_c1_l1 c c2 c3 t9 t10 sgm_) = R_impl_valuesOf__impl_SumOfWhat_c1_l1 c c2 c3 t9 t10 rho_ := by
  refine loop_ex (E := E_impl_valuesOf__impl_SumOfWhat_c1_l1 c c2 c3 t9 t10) (R := R_impl_valuesOf__impl_SumOfWhat_c1_l1 c c2 c3 t9 t10) (fun y => by first | (intro c; cases c) | (rcases y with y | y <;> (intro c; cases c)) | (rcases y with y | y | y <;> (intro c; cases c))) ?_ h
  clear h
  rintro ⟨out, t11⟩ o_ h
  dsimp only [impl_valuesOf__impl_SumOfWhat_c1_l1] at h
  rcases it_some h with ⟨hk1, h⟩ | ⟨hk1, h⟩
  · try simp only [go_sem, n1, n2, n3, n4] at hk1
    all_goals
    obtain ⟨hk2, h⟩ := ck_some h
    have lhk2 := ix_lt hk2
    have xhk2 := getD_mapD Entry_av t9 lhk2
    try simp only [go_sem] at lhk2
    try simp only [go_sem] at xhk2
    try simp only [go_sem, n1, n2, n3, n4, hk1] at hk2
    all_goals
    obtain ⟨y_3, hk3, h⟩ := bd_some h
    have fhk3 := Fs_impl_SumOfWhat_c1 hk3
    try simp only [go_sem, hk1, hk2] at fhk3
    rcases it_some h with ⟨hk4, h⟩ | ⟨hk4, h⟩
    · try simp only [go_sem, n1, n2, n3, n4, hk1, hk2] at hk4
      all_goals
      obtain ⟨hk5, h⟩ := ck_some h
      try simp only [go_sem, n1, n2, n3, n4, hk1, hk2, hk4] at hk5
      all_goals
      obtain rfl := so_some h
      refine ⟨0, fun L hL => ?_⟩
      simp only [go_sem, ir39, E_impl_valuesOf__impl_SumOfWhat_c1_l1, R_impl_valuesOf__impl_SumOfWhat_c1_l1, ir39_b0, ir39_k0, ir39_o0, ir39_r0, hk1, hk2, lhk2, xhk2, fhk3, hk4, hk5]
    · try simp only [go_sem, n1, n2, n3, n4, hk1, hk2] at hk4
      all_goals
      obtain rfl := so_some h
      refine ⟨0, fun L hL => ?_⟩
      simp only [go_sem, ir39, E_impl_valuesOf__impl_SumOfWhat_c1_l1, R_impl_valuesOf__impl_SumOfWhat_c1_l1, ir39_b0, ir39_k0, ir39_o0, ir39_r0, hk1, hk2, lhk2, xhk2, fhk3, hk4]
  · try simp only [go_sem, n1, n2, n3, n4] at hk1
    all_goals
    obtain rfl := so_some h
    refine ⟨0, fun L hL => ?_⟩
    simp only [go_sem, ir39, E_impl_valuesOf__impl_SumOfWhat_c1_l1, R_impl_valuesOf__impl_SumOfWhat_c1_l1, ir39_b0, ir39_k0, ir39_o0, ir39_r0, hk1]

theorem Fs_impl_valuesOf__impl_SumOfWhat_c1 {entries : List Entry} {wanted_c0 : List UInt8} {wanted_c1 : Int} {wanted_c2 : Int} {y_ : (List Int)} (h : impl_valuesOf__impl_SumOfWhat_c1 entries wanted_c0 wanted_c1 wanted_c2 = some y_) : c_impl_valuesOf__impl_SumOfWhat_c1.F [.sl 3 (List.map Entry_av entries), .fn (.func 40) [] [.ptr 1 [.str wanted_c0] 0 0, .ptr 1 [.int .i64 wanted_c1] 0 0, .ptr 1 [.int .i64 wanted_c2] 0 0]] = ⟨true, .fresh 1 (List.map (AV.int .i64) y_), [.any, .any]⟩ := by
  refine mkF_E (by simp only [flatA, flatB, flat1, List.all_cons, List.all_nil, Bool.and_self, flatE_map (f := (AV.int .i64)) (fun _ => rfl)]) ?_
  dsimp only [impl_valuesOf__impl_SumOfWhat_c1] at h
  obtain ⟨y_6, hk6, h⟩ := bd_some h
  obtain ⟨Lhk6, ehk6⟩ := impl_valuesOf__impl_SumOfWhat_c1_l1_ex hk6
  obtain rfl := so_some h
  refine ⟨Lhk6, fun L hL => ?_⟩
  have ehk6 := ehk6 L (by omega)
  try simp only [go_sem, E_impl_valuesOf__impl_SumOfWhat_c1_l1, R_impl_valuesOf__impl_SumOfWhat_c1_l1, ir39_k0, ir39_o0, ir39_r0] at ehk6
  simp only [go_sem, ir39, E_impl_valuesOf__impl_SumOfWhat_c1_l1, R_impl_valuesOf__impl_SumOfWhat_c1_l1, ir39_k0, ir39_o0, ir39_r0, ehk6]


def ir38_b0 : IR := .seq (.region false [
    ⟨.var 7, 9, none, .bin false .lss (.v 6) (.v 5)⟩])
 (.seq (.cond (.v 7) (.skip)
  (.exit 0))
 (.seq (.block 1 (.seq (.region false [
      ⟨.push, 10, none, .ixAddr 1 (.v 4) (.v 6)⟩,
      ⟨.push, 11, none, .load false 1 (.s 0)⟩,
      ⟨.var 3, 5, none, .mov (.s 0)⟩])
   (.region false [
     ⟨.push, 12, none, .mov (.v 2)⟩,
     ⟨.push, 13, none, .mov (.v 3)⟩,
     ⟨.push, 14, none, .bin false .add (.s 1) (.s 0)⟩,
     ⟨.var 2, 3, none, .mov (.s 0)⟩])))
 (.region false [
   ⟨.push, 15, none, .bin false .add (.v 6) (.c (.int .i64 (1)))⟩,
   ⟨.var 6, 8, none, .mov (.s 0)⟩])))
def ir38_k0 : List Bool := [false, false, true, false, true, true, true, false]
def ir38_o0 : List Bool := [false, false, true, false, false, false, false, false]
def ir38_r0 : List Bool := [false, true, false, false, false, false, false, false]
def ir38_v : List Nat := [0, 2, 3, 5, 6, 7, 8, 9]
def ir38 : AFn := ⟨1, 8, .seq (.region false [
    ⟨.var 1, 2, none, .mov (.c (.int .i64 (0)))⟩])
 (.seq (.region false [
    ⟨.var 2, 3, none, .mov (.c (.int .i64 (0)))⟩])
 (.seq (.seq (.region false [
     ⟨.var 4, 6, none, .mov (.v 0)⟩,
     ⟨.var 5, 7, none, .len false (.v 4)⟩,
     ⟨.var 6, 8, none, .mov (.c (.int .i64 (0)))⟩])
  (.block 0 (.loop ir38_k0 ir38_o0 ir38_r0 ir38_b0)))
 (.seq (.region false [
    ⟨.push, 16, none, .mov (.v 2)⟩,
    ⟨.var 1, 2, none, .mov (.s 0)⟩])
 (.ret)))), [.t 1]⟩
noncomputable def t_impl_sum : List (Nat × Ctr) := []
noncomputable def c_impl_sum : Ctr := mkF t_impl_sum ir38 [.bor]
theorem s_impl_sum : Sound Tryd.prog 38 c_impl_sum := mkF_sound _ rfl snd_nil (by kernel_rfl : chkFn Tryd.prog 38 ir38 ir38_v = true)
theorem M_impl_sum : c_impl_sum.modes = [.bor] := rfl
theorem Fl_impl_sum : c_impl_sum.flat = true := rfl
attribute [go_sem] M_impl_sum Fl_impl_sum
def E_impl_sum_l1 (t6 : List Int) (t7 : Int) : (Int × Int) → St
  | (n, t8) => ⟨[.any, .any, .int .i64 n, .any, .sl 1 (List.map (AV.int .i64) t6), .int .i64 t7, .int .i64 t8, .any], [], [], true⟩
def R_impl_sum_l1 (t6 : List Int) (t7 : Int) (y : Int) : Res := (.exit 0, ⟨[.any, .any, .int .i64 y, .any, .any, .any, .any, .any], [], [], true⟩)
theorem impl_sum_l1_ex {t6 : List Int} {t7 : Int} {sgm_ : Int × Int} {rho_ : Int} (h : whileE (impl_sum_l1 t6 t7) sgm_ = some rho_) : ∃ L0, ∀ L, L0 ≤ L → iter (exec (look t_impl_sum) L ir38_b0) ir38_k0 ir38_o0 ir38_r0 L (E_impl_sum_l1 t6 t7 sgm_) = R_impl_sum_l1 t6 t7 rho_ := by
  refine loop_ex (E := E_impl_sum_l1 t6 t7) (R := R_impl_sum_l1 t6 t7) (fun y => by first | (intro c; cases c) | (rcases y with y | y <;> (intro c; cases c)) | (rcases y with y | y | y <;> (intro c; cases c))) ?_ h
  clear h
  rintro ⟨n, t8⟩ o_ h
  dsimp only [impl_sum_l1] at h
  rcases it_some h with ⟨hk1, h⟩ | ⟨hk1, h⟩
  · try simp only [go_sem, n1, n2, n3, n4] at hk1
    all_goals
    obtain ⟨hk2, h⟩ := ck_some h
    have lhk2 := ix_lt hk2
    have xhk2 := getD_mapD (AV.int .i64) t6 lhk2
    try simp only [go_sem] at lhk2
    try simp only [go_sem] at xhk2
    try simp only [go_sem, n1, n2, n3, n4, hk1] at hk2
    all_goals
    obtain rfl := so_some h
    refine ⟨0, fun L hL => ?_⟩
    simp only [go_sem, ir38, E_impl_sum_l1, R_impl_sum_l1, ir38_b0, ir38_k0, ir38_o0, ir38_r0, hk1, hk2, lhk2, xhk2]
  · try simp only [go_sem, n1, n2, n3, n4] at hk1
    all_goals
    obtain rfl := so_some h
    refine ⟨0, fun L hL => ?_⟩
    simp only [go_sem, ir38, E_impl_sum_l1, R_impl_sum_l1, ir38_b0, ir38_k0, ir38_o0, ir38_r0, hk1]

theorem Fs_impl_sum {list : List Int} {y_ : Int} (h : impl_sum list = some y_) : c_impl_sum.F [.sl 1 (List.map (AV.int .i64) list)] = ⟨true, .int .i64 y_, [.any]⟩ := by
  refine mkF_E rfl ?_
  dsimp only [impl_sum] at h
  obtain ⟨y_3, hk3, h⟩ := bd_some h
  obtain ⟨Lhk3, ehk3⟩ := impl_sum_l1_ex hk3
  obtain rfl := so_some h
  refine ⟨Lhk3, fun L hL => ?_⟩
  have ehk3 := ehk3 L (by omega)
  try simp only [go_sem, E_impl_sum_l1, R_impl_sum_l1, ir38_k0, ir38_o0, ir38_r0] at ehk3
  simp only [go_sem, ir38, E_impl_sum_l1, R_impl_sum_l1, ir38_k0, ir38_o0, ir38_r0, ehk3]


def ir12_v : List Nat := [0, 1, 2, 3, 5, 6, 7, 8, 9, 10, 11]
def ir12 : AFn := ⟨4, 11, .seq (.region false [
    ⟨.var 4, 5, none, .box (.v 1)⟩,
    ⟨.var 5, 6, none, .box (.v 2)⟩,
    ⟨.var 6, 7, none, .box (.v 3)⟩,
    ⟨.var 7, 8, none, .mov (.c (.int .i64 (0)))⟩,
    ⟨.var 8, 9, none, .mov (.c (.int .i64 (0)))⟩])
 (.seq (.region false [
    ⟨.push, 13, none, .mov (.v 0)⟩,
    ⟨.push, 14, none, .call 19 [(.s 0)]⟩,
    ⟨.push, 12, none, .mov (.s 0)⟩,
    ⟨.push, 15, none, .ext (.s 0) 0⟩,
    ⟨.push, 16, none, .ext (.s 1) 1⟩,
    ⟨.var 9, 10, none, .mov (.s 1)⟩,
    ⟨.var 10, 11, none, .mov (.s 0)⟩])
 (.seq (.block 0 (.test false [
     ⟨.push, 18, none, .mov (.v 10)⟩,
     ⟨.push, 19, none, .bin false .neq (.s 0) (.c (.int .i64 (0)))⟩,
     ⟨.push, 17, none, .mov (.s 0)⟩] (.s 0)
   (.seq (.region false [
       ⟨.push, 20, none, .mov (.v 10)⟩,
       ⟨.var 7, 8, none, .mov (.c (.int .i64 (0)))⟩,
       ⟨.var 8, 9, none, .mov (.s 0)⟩])
    (.ret))
   (.test false [
      ⟨.push, 22, none, .load false 1 (.v 4)⟩,
      ⟨.push, 23, none, .call 36 [(.s 0)]⟩,
      ⟨.push, 24, none, .un .not (.s 0)⟩,
      ⟨.push, 25, none, .mov (.s 0)⟩,
      ⟨.push, 26, (some ((.s 0), false)), .load false 1 (.v 5)⟩,
      ⟨.push, 27, (some ((.s 1), false)), .call 37 [(.s 0), (.c (.int .i64 (0))), (.c (.int .i64 (100000)))]⟩,
      ⟨.push, 28, (some ((.s 2), false)), .un .not (.s 0)⟩,
      ⟨.push, 29, none, .pick (.s 3) (.c (.bool true)) (.s 0)⟩,
      ⟨.push, 30, none, .mov (.s 0)⟩,
      ⟨.push, 31, (some ((.s 0), false)), .load false 1 (.v 6)⟩,
      ⟨.push, 32, (some ((.s 1), false)), .call 37 [(.s 0), (.c (.int .i64 (0))), (.c (.int .i64 (100000)))]⟩,
      ⟨.push, 33, (some ((.s 2), false)), .un .not (.s 0)⟩,
      ⟨.push, 34, none, .pick (.s 3) (.c (.bool true)) (.s 0)⟩,
      ⟨.push, 21, none, .mov (.s 0)⟩] (.s 0)
    (.seq (.region false [
        ⟨.var 7, 8, none, .mov (.c (.int .i64 (0)))⟩,
        ⟨.var 8, 9, none, .mov (.c (.int .i64 (2)))⟩])
     (.ret))
    (.skip))))
 (.seq (.region false [
    ⟨.push, 35, none, .mov (.v 9)⟩,
    ⟨.push, 36, none, .mkFn (.func 40) [] [(.v 4), (.v 5), (.v 6)]⟩,
    ⟨.push, 37, none, .call 39 [(.s 1), (.s 0)]⟩,
    ⟨.push, 38, none, .call 38 [(.s 0)]⟩,
    ⟨.var 7, 8, none, .mov (.s 0)⟩,
    ⟨.var 8, 9, none, .mov (.c (.int .i64 (0)))⟩])
 (.ret)))), [.t 7, .t 8]⟩
noncomputable def t_impl_SumOfWhat : List (Nat × Ctr) := [(19, c_impl_EntriesOf), (36, c_impl_IsName), (37, c_impl_in), (39, c_impl_valuesOf__impl_SumOfWhat_c1), (38, c_impl_sum)]
theorem lk_impl_SumOfWhat_19 : look t_impl_SumOfWhat 19 = some c_impl_EntriesOf := rfl
theorem lk_impl_SumOfWhat_36 : look t_impl_SumOfWhat 36 = some c_impl_IsName := rfl
theorem lk_impl_SumOfWhat_37 : look t_impl_SumOfWhat 37 = some c_impl_in := rfl
theorem lk_impl_SumOfWhat_39 : look t_impl_SumOfWhat 39 = some c_impl_valuesOf__impl_SumOfWhat_c1 := rfl
theorem lk_impl_SumOfWhat_38 : look t_impl_SumOfWhat 38 = some c_impl_sum := rfl
noncomputable def c_impl_SumOfWhat : Ctr := mkF t_impl_SumOfWhat ir12 [.bor, .bor, .bor, .bor]
theorem s_impl_SumOfWhat : Sound Tryd.prog 12 c_impl_SumOfWhat := mkF_sound _ rfl (snd_cons s_impl_EntriesOf (snd_cons s_impl_IsName (snd_cons s_impl_in (snd_cons s_impl_valuesOf__impl_SumOfWhat_c1 (snd_cons s_impl_sum snd_nil))))) (by kernel_rfl : chkFn Tryd.prog 12 ir12 ir12_v = true)
theorem M_impl_SumOfWhat : c_impl_SumOfWhat.modes = [.bor, .bor, .bor, .bor] := rfl
theorem Fl_impl_SumOfWhat : c_impl_SumOfWhat.flat = true := rfl
attribute [go_sem] M_impl_SumOfWhat Fl_impl_SumOfWhat
attribute [go_sem] lk_impl_SumOfWhat_19 lk_impl_SumOfWhat_36 lk_impl_SumOfWhat_37 lk_impl_SumOfWhat_39 lk_impl_SumOfWhat_38
theorem Fs_impl_SumOfWhat {log : List UInt8} {what : List UInt8} {from_ : Int} {to_ : Int} {y_ : Int × Int} (h : impl_SumOfWhat log what from_ to_ = some y_) : c_impl_SumOfWhat.F [.str log, .str what, .int .i64 from_, .int .i64 to_] = ⟨true, .tup [.int .i64 y_.1, .int .i64 y_.2], [.any, .any, .any, .any]⟩ := by
  refine mkF_E rfl ?_
  dsimp only [impl_SumOfWhat] at h
  obtain ⟨y_1, hk1, h⟩ := bd_some h
  have fhk1 := Fs_impl_EntriesOf hk1
  try simp only [go_sem] at fhk1
  rcases it_some h with ⟨hk2, h⟩ | ⟨hk2, h⟩
  · try simp only [go_sem, n1, n2, n3, n4] at hk2
    all_goals
    obtain rfl := so_some h
    refine ⟨0, fun L hL => ?_⟩
    simp only [go_sem, ir12, fhk1, hk2]
  · try simp only [go_sem, n1, n2, n3, n4] at hk2
    all_goals
    obtain ⟨y_3, hk3, h⟩ := bd_some h
    have fhk3 := Fs_impl_IsName hk3
    try simp only [go_sem, hk2] at fhk3
    obtain ⟨hk4, h⟩ := ck_some h
    rcases or_split hk4 with ⟨ghk4, hk4⟩ | ghk4
    · try simp only [go_sem, n1, n2, n3, n4, hk2] at ghk4
      all_goals
      obtain ⟨y_4, hhk4⟩ := Option.isSome_iff_exists.1 hk4
      have fhk4 := Fs_impl_in hhk4
      try simp only [go_sem, hk2, ghk4] at fhk4
      obtain ⟨hk5, h⟩ := ck_some h
      rcases or_split hk5 with ⟨ghk5, hk5⟩ | ghk5
      · try simp only [go_sem, n1, n2, n3, n4, hk2, ghk4, hhk4] at ghk5
        all_goals
        obtain ⟨y_5, hhk5⟩ := Option.isSome_iff_exists.1 hk5
        have fhk5 := Fs_impl_in hhk5
        try simp only [go_sem, hk2, ghk4, hhk4, ghk5] at fhk5
        rcases it_some h with ⟨hk6, h⟩ | ⟨hk6, h⟩
        · try simp only [go_sem, n1, n2, n3, n4, hk2, ghk4, hhk4, ghk5, hhk5] at hk6
          all_goals
          obtain rfl := so_some h
          refine ⟨0, fun L hL => ?_⟩
          simp only [go_sem, ir12, fhk1, hk2, fhk3, ghk4, hhk4, fhk4, ghk5, hhk5, fhk5, hk6]
        · try simp only [go_sem, n1, n2, n3, n4, hk2, ghk4, hhk4, ghk5, hhk5] at hk6
          all_goals
          obtain ⟨y_7, hk7, h⟩ := bd_some h
          have fhk7 := Fs_impl_valuesOf__impl_SumOfWhat_c1 hk7
          try simp only [go_sem, hk2, ghk4, hhk4, ghk5, hhk5, hk6] at fhk7
          obtain ⟨y_8, hk8, h⟩ := bd_some h
          have fhk8 := Fs_impl_sum hk8
          try simp only [go_sem, hk2, ghk4, hhk4, ghk5, hhk5, hk6] at fhk8
          obtain rfl := so_some h
          refine ⟨0, fun L hL => ?_⟩
          simp only [go_sem, ir12, fhk1, hk2, fhk3, ghk4, hhk4, fhk4, ghk5, hhk5, fhk5, hk6, fhk7, fhk8]
      · have ghk5n := no_f ghk5
        rcases or_t ghk5n with ghk5na | ⟨ghk5na, ghk5nb⟩
        · have ghk5nan := no_t ghk5na
          try simp only [go_sem, n1, n2, n3, n4, hk2, ghk4, hhk4] at ghk5nan
          all_goals
          rcases it_some h with ⟨hk6, h⟩ | ⟨hk6, h⟩
          · try simp only [go_sem, n1, n2, n3, n4, hk2, ghk4, hhk4, ghk5nan] at hk6
            all_goals
            obtain rfl := so_some h
            refine ⟨0, fun L hL => ?_⟩
            simp only [go_sem, ir12, fhk1, hk2, fhk3, ghk4, hhk4, fhk4, ghk5nan, hk6]
          · try simp only [go_sem, n1, n2, n3, n4, hk2, ghk4, hhk4, ghk5nan] at hk6
            all_goals
            obtain ⟨y_7, hk7, h⟩ := bd_some h
            have fhk7 := Fs_impl_valuesOf__impl_SumOfWhat_c1 hk7
            try simp only [go_sem, hk2, ghk4, hhk4, ghk5nan, hk6] at fhk7
            obtain ⟨y_8, hk8, h⟩ := bd_some h
            have fhk8 := Fs_impl_sum hk8
            try simp only [go_sem, hk2, ghk4, hhk4, ghk5nan, hk6] at fhk8
            obtain rfl := so_some h
            refine ⟨0, fun L hL => ?_⟩
            simp only [go_sem, ir12, fhk1, hk2, fhk3, ghk4, hhk4, fhk4, ghk5nan, hk6, fhk7, fhk8]
        · have ghk5nan := no_f ghk5na
          have ghk5nbn := no_t ghk5nb
          try simp only [go_sem, n1, n2, n3, n4, hk2, ghk4, hhk4] at ghk5nan
          all_goals
          try simp only [go_sem, n1, n2, n3, n4, hk2, ghk4, hhk4, ghk5nan] at ghk5nbn
          all_goals
          rcases it_some h with ⟨hk6, h⟩ | ⟨hk6, h⟩
          · try simp only [go_sem, n1, n2, n3, n4, hk2, ghk4, hhk4, ghk5nan, ghk5nbn] at hk6
            all_goals
            obtain rfl := so_some h
            refine ⟨0, fun L hL => ?_⟩
            simp only [go_sem, ir12, fhk1, hk2, fhk3, ghk4, hhk4, fhk4, ghk5nan, ghk5nbn, hk6]
          · try simp only [go_sem, n1, n2, n3, n4, hk2, ghk4, hhk4, ghk5nan, ghk5nbn] at hk6
            all_goals
            obtain ⟨y_7, hk7, h⟩ := bd_some h
            have fhk7 := Fs_impl_valuesOf__impl_SumOfWhat_c1 hk7
            try simp only [go_sem, hk2, ghk4, hhk4, ghk5nan, ghk5nbn, hk6] at fhk7
            obtain ⟨y_8, hk8, h⟩ := bd_some h
            have fhk8 := Fs_impl_sum hk8
            try simp only [go_sem, hk2, ghk4, hhk4, ghk5nan, ghk5nbn, hk6] at fhk8
            obtain rfl := so_some h
            refine ⟨0, fun L hL => ?_⟩
            simp only [go_sem, ir12, fhk1, hk2, fhk3, ghk4, hhk4, fhk4, ghk5nan, ghk5nbn, hk6, fhk7, fhk8]
    · have ghk4n := no_f ghk4
      have ghk4nn := no_t ghk4n
      try simp only [go_sem, n1, n2, n3, n4, hk2] at ghk4nn
      all_goals
      obtain ⟨hk5, h⟩ := ck_some h
      rcases or_split hk5 with ⟨ghk5, hk5⟩ | ghk5
      · try simp only [go_sem, n1, n2, n3, n4, hk2, ghk4nn] at ghk5
        all_goals
        obtain ⟨y_5, hhk5⟩ := Option.isSome_iff_exists.1 hk5
        have fhk5 := Fs_impl_in hhk5
        try simp only [go_sem, hk2, ghk4nn, ghk5] at fhk5
        rcases it_some h with ⟨hk6, h⟩ | ⟨hk6, h⟩
        · try simp only [go_sem, n1, n2, n3, n4, hk2, ghk4nn, ghk5, hhk5] at hk6
          all_goals
          obtain rfl := so_some h
          refine ⟨0, fun L hL => ?_⟩
          simp only [go_sem, ir12, fhk1, hk2, fhk3, ghk4nn, ghk5, hhk5, fhk5, hk6]
        · try simp only [go_sem, n1, n2, n3, n4, hk2, ghk4nn, ghk5, hhk5] at hk6
          all_goals
          obtain ⟨y_7, hk7, h⟩ := bd_some h
          have fhk7 := Fs_impl_valuesOf__impl_SumOfWhat_c1 hk7
          try simp only [go_sem, hk2, ghk4nn, ghk5, hhk5, hk6] at fhk7
          obtain ⟨y_8, hk8, h⟩ := bd_some h
          have fhk8 := Fs_impl_sum hk8
          try simp only [go_sem, hk2, ghk4nn, ghk5, hhk5, hk6] at fhk8
          obtain rfl := so_some h
          refine ⟨0, fun L hL => ?_⟩
          simp only [go_sem, ir12, fhk1, hk2, fhk3, ghk4nn, ghk5, hhk5, fhk5, hk6, fhk7, fhk8]
      · have ghk5n := no_f ghk5
        rcases or_t ghk5n with ghk5na | ⟨ghk5na, ghk5nb⟩
        · have ghk5nan := no_t ghk5na
          try simp only [go_sem, n1, n2, n3, n4, hk2, ghk4nn] at ghk5nan
          all_goals
          rcases it_some h with ⟨hk6, h⟩ | ⟨hk6, h⟩
          · try simp only [go_sem, n1, n2, n3, n4, hk2, ghk4nn, ghk5nan] at hk6
            all_goals
            obtain rfl := so_some h
            refine ⟨0, fun L hL => ?_⟩
            simp only [go_sem, ir12, fhk1, hk2, fhk3, ghk4nn, ghk5nan, hk6]
          · try simp only [go_sem, n1, n2, n3, n4, hk2, ghk4nn, ghk5nan] at hk6
            all_goals
            obtain ⟨y_7, hk7, h⟩ := bd_some h
            have fhk7 := Fs_impl_valuesOf__impl_SumOfWhat_c1 hk7
            try simp only [go_sem, hk2, ghk4nn, ghk5nan, hk6] at fhk7
            obtain ⟨y_8, hk8, h⟩ := bd_some h
            have fhk8 := Fs_impl_sum hk8
            try simp only [go_sem, hk2, ghk4nn, ghk5nan, hk6] at fhk8
            obtain rfl := so_some h
            refine ⟨0, fun L hL => ?_⟩
            simp only [go_sem, ir12, fhk1, hk2, fhk3, ghk4nn, ghk5nan, hk6, fhk7, fhk8]
        · have ghk5nan := no_f ghk5na
          have ghk5nbn := no_t ghk5nb
          try simp only [go_sem, n1, n2, n3, n4, hk2, ghk4nn] at ghk5nan
          all_goals
          try simp only [go_sem, n1, n2, n3, n4, hk2, ghk4nn, ghk5nan] at ghk5nbn
          all_goals
          rcases it_some h with ⟨hk6, h⟩ | ⟨hk6, h⟩
          · try simp only [go_sem, n1, n2, n3, n4, hk2, ghk4nn, ghk5nan, ghk5nbn] at hk6
            all_goals
            obtain rfl := so_some h
            refine ⟨0, fun L hL => ?_⟩
            simp only [go_sem, ir12, fhk1, hk2, fhk3, ghk4nn, ghk5nan, ghk5nbn, hk6]
          · try simp only [go_sem, n1, n2, n3, n4, hk2, ghk4nn, ghk5nan, ghk5nbn] at hk6
            all_goals
            obtain ⟨y_7, hk7, h⟩ := bd_some h
            have fhk7 := Fs_impl_valuesOf__impl_SumOfWhat_c1 hk7
            try simp only [go_sem, hk2, ghk4nn, ghk5nan, ghk5nbn, hk6] at fhk7
            obtain ⟨y_8, hk8, h⟩ := bd_some h
            have fhk8 := Fs_impl_sum hk8
            try simp only [go_sem, hk2, ghk4nn, ghk5nan, ghk5nbn, hk6] at fhk8
            obtain rfl := so_some h
            refine ⟨0, fun L hL => ?_⟩
            simp only [go_sem, ir12, fhk1, hk2, fhk3, ghk4nn, ghk5nan, ghk5nbn, hk6, fhk7, fhk8]


def ir4_v : List Nat := [0, 1, 2, 3, 8, 9, 10, 11, 12]
def ir4 : AFn := ⟨4, 9, .seq (.region false [
    ⟨.var 4, 8, none, .mov (.c (.bool false))⟩])
 (.seq (.test false [
    ⟨.push, 13, none, .mov (.v 0)⟩,
    ⟨.push, 14, none, .len true (.s 0)⟩,
    ⟨.push, 15, none, .bin false .gtr (.s 0) (.c (.int .i64 (1048576)))⟩] (.s 0)
  (.seq (.region false [
      ⟨.var 4, 8, none, .mov (.c (.bool true))⟩])
   (.ret))
  (.skip))
 (.seq (.test false [
    ⟨.push, 16, none, .mov (.v 1)⟩,
    ⟨.push, 17, none, .len true (.s 0)⟩,
    ⟨.push, 18, none, .bin false .gtr (.s 0) (.c (.int .i64 (1048576)))⟩] (.s 0)
  (.seq (.region false [
      ⟨.var 4, 8, none, .mov (.c (.bool true))⟩])
   (.ret))
  (.skip))
 (.seq (.region false [
    ⟨.push, 20, none, .mov (.v 0)⟩,
    ⟨.push, 21, none, .mov (.v 1)⟩,
    ⟨.push, 22, none, .mov (.v 2)⟩,
    ⟨.push, 23, none, .mov (.v 3)⟩,
    ⟨.push, 24, none, .call 11 [(.s 3), (.s 2), (.s 1), (.s 0)]⟩,
    ⟨.push, 19, none, .mov (.s 0)⟩,
    ⟨.push, 25, none, .ext (.s 0) 0⟩,
    ⟨.push, 26, none, .ext (.s 1) 1⟩,
    ⟨.var 5, 9, none, .mov (.s 1)⟩,
    ⟨.var 6, 10, none, .mov (.s 0)⟩])
 (.seq (.region false [
    ⟨.push, 28, none, .mov (.v 0)⟩,
    ⟨.push, 29, none, .mov (.v 1)⟩,
    ⟨.push, 30, none, .mov (.v 2)⟩,
    ⟨.push, 31, none, .mov (.v 3)⟩,
    ⟨.push, 32, none, .call 12 [(.s 3), (.s 2), (.s 1), (.s 0)]⟩,
    ⟨.push, 27, none, .mov (.s 0)⟩,
    ⟨.push, 33, none, .ext (.s 0) 0⟩,
    ⟨.push, 34, none, .ext (.s 1) 1⟩,
    ⟨.var 7, 11, none, .mov (.s 1)⟩,
    ⟨.var 8, 12, none, .mov (.s 0)⟩])
 (.seq (.test false [
    ⟨.push, 35, none, .mov (.v 7)⟩,
    ⟨.push, 36, none, .mov (.v 5)⟩,
    ⟨.push, 37, none, .bin false .neq (.s 1) (.s 0)⟩,
    ⟨.push, 38, none, .mov (.s 0)⟩,
    ⟨.push, 39, (some ((.s 0), false)), .mov (.v 8)⟩,
    ⟨.push, 40, (some ((.s 1), false)), .mov (.v 6)⟩,
    ⟨.push, 41, (some ((.s 2), false)), .bin false .neq (.s 1) (.s 0)⟩,
    ⟨.push, 42, none, .pick (.s 3) (.c (.bool true)) (.s 0)⟩] (.s 0)
  (.seq (.region false [
      ⟨.var 4, 8, none, .mov (.c (.bool false))⟩])
   (.ret))
  (.skip))
 (.seq (.region false [
    ⟨.var 4, 8, none, .mov (.c (.bool true))⟩])
 (.ret))))))), [.t 4]⟩
noncomputable def t_laws_FnExactSumOfWhat : List (Nat × Ctr) := [(11, c_spec_SumOfWhat), (12, c_impl_SumOfWhat)]
theorem lk_laws_FnExactSumOfWhat_11 : look t_laws_FnExactSumOfWhat 11 = some c_spec_SumOfWhat := rfl
theorem lk_laws_FnExactSumOfWhat_12 : look t_laws_FnExactSumOfWhat 12 = some c_impl_SumOfWhat := rfl
noncomputable def c_laws_FnExactSumOfWhat : Ctr := mkF t_laws_FnExactSumOfWhat ir4 [.bor, .bor, .bor, .bor]
theorem s_laws_FnExactSumOfWhat : Sound Tryd.prog 4 c_laws_FnExactSumOfWhat := mkF_sound _ rfl (snd_cons s_spec_SumOfWhat (snd_cons s_impl_SumOfWhat snd_nil)) (by kernel_rfl : chkFn Tryd.prog 4 ir4 ir4_v = true)
theorem M_laws_FnExactSumOfWhat : c_laws_FnExactSumOfWhat.modes = [.bor, .bor, .bor, .bor] := rfl
theorem Fl_laws_FnExactSumOfWhat : c_laws_FnExactSumOfWhat.flat = true := rfl
attribute [go_sem] M_laws_FnExactSumOfWhat Fl_laws_FnExactSumOfWhat
attribute [go_sem] lk_laws_FnExactSumOfWhat_11 lk_laws_FnExactSumOfWhat_12
theorem Fs_laws_FnExactSumOfWhat {aLog : List UInt8} {aWhat : List UInt8} {aFrom : Int} {aTo : Int} {y_ : Bool} (h : laws_FnExactSumOfWhat aLog aWhat aFrom aTo = some y_) : c_laws_FnExactSumOfWhat.F [.str aLog, .str aWhat, .int .i64 aFrom, .int .i64 aTo] = ⟨true, .bool y_, [.any, .any, .any, .any]⟩ := by
  refine mkF_E rfl ?_
  dsimp only [laws_FnExactSumOfWhat] at h
  rcases it_some h with ⟨hk1, h⟩ | ⟨hk1, h⟩
  · try simp only [go_sem, n1, n2, n3, n4] at hk1
    all_goals
    obtain rfl := so_some h
    refine ⟨0, fun L hL => ?_⟩
    simp only [go_sem, ir4, hk1]
  · try simp only [go_sem, n1, n2, n3, n4] at hk1
    all_goals
    rcases it_some h with ⟨hk2, h⟩ | ⟨hk2, h⟩
    · try simp only [go_sem, n1, n2, n3, n4, hk1] at hk2
      all_goals
      obtain rfl := so_some h
      refine ⟨0, fun L hL => ?_⟩
      simp only [go_sem, ir4, hk1, hk2]
    · try simp only [go_sem, n1, n2, n3, n4, hk1] at hk2
      all_goals
      obtain ⟨y_3, hk3, h⟩ := bd_some h
      have fhk3 := Fs_spec_SumOfWhat hk3
      try simp only [go_sem, hk1, hk2] at fhk3
      obtain ⟨y_4, hk4, h⟩ := bd_some h
      have fhk4 := Fs_impl_SumOfWhat hk4
      try simp only [go_sem, hk1, hk2] at fhk4
      rcases it_some h with ⟨hk5, h⟩ | ⟨hk5, h⟩
      · try simp only [go_sem, n1, n2, n3, n4, hk1, hk2] at hk5
        all_goals
        obtain rfl := so_some h
        refine ⟨0, fun L hL => ?_⟩
        simp only [go_sem, ir4, hk1, hk2, fhk3, fhk4, hk5]
      · try simp only [go_sem, n1, n2, n3, n4, hk1, hk2] at hk5
        all_goals
        obtain rfl := so_some h
        refine ⟨0, fun L hL => ?_⟩
        simp only [go_sem, ir4, hk1, hk2, fhk3, fhk4, hk5]


def ir13_b0 : IR := .seq (.test false [
    ⟨.push, 20, none, .mov (.v 7)⟩,
    ⟨.push, 21, none, .mov (.v 4)⟩,
    ⟨.push, 22, none, .nilck (.s 0)⟩,
    ⟨.push, 23, none, .fldAddr 3 (.s 0)⟩,
    ⟨.push, 24, none, .load false 1 (.s 0)⟩,
    ⟨.push, 25, none, .len false (.s 0)⟩,
    ⟨.push, 26, none, .bin false .lss (.s 5) (.s 0)⟩] (.s 0)
  (.skip)
  (.exit 0))
 (.seq (.block 1 (.test false [
     ⟨.push, 29, none, .mov (.v 4)⟩,
     ⟨.push, 30, none, .nilck (.s 0)⟩,
     ⟨.push, 31, none, .fldAddr 3 (.s 0)⟩,
     ⟨.push, 32, none, .load false 1 (.s 0)⟩,
     ⟨.push, 33, none, .mov (.v 7)⟩,
     ⟨.push, 34, none, .ixAddr 3 (.s 1) (.s 0)⟩,
     ⟨.push, 35, none, .fldAddr 1 (.s 0)⟩,
     ⟨.push, 36, none, .load false 1 (.s 0)⟩,
     ⟨.push, 37, none, .mov (.v 1)⟩,
     ⟨.push, 38, none, .bin false .eql (.s 1) (.s 0)⟩] (.s 0)
   (.region false [
      ⟨.push, 39, none, .mov (.v 6)⟩,
      ⟨.push, 40, none, .mov (.v 4)⟩,
      ⟨.push, 41, none, .nilck (.s 0)⟩,
      ⟨.push, 42, none, .fldAddr 3 (.s 0)⟩,
      ⟨.push, 43, none, .load false 1 (.s 0)⟩,
      ⟨.push, 44, none, .mov (.v 7)⟩,
      ⟨.push, 45, none, .ixAddr 3 (.s 1) (.s 0)⟩,
      ⟨.push, 46, none, .fldAddr 2 (.s 0)⟩,
      ⟨.push, 47, none, .load false 1 (.s 0)⟩,
      ⟨.push, 48, none, .mkSl 1 (.int .i64 (0)) 1 [(0, (.s 0))]⟩,
      ⟨.push, 49, none, .app 1 8 (.int .i64 (0)) (.s 9) (.s 0)⟩,
      ⟨.var 6, 8, none, .mov (.s 0)⟩])
   (.skip)))
 (.region false [
   ⟨.push, 27, none, .mov (.v 7)⟩,
   ⟨.push, 28, none, .bin false .add (.s 0) (.c (.int .i64 (1)))⟩,
   ⟨.var 7, 9, none, .mov (.s 0)⟩]))
def ir13_k0 : List Bool := [false, true, false, false, true, false, true, true]
def ir13_o0 : List Bool := [false, false, false, false, false, false, true, false]
def ir13_r0 : List Bool := [false, false, true, true, false, false, false, false]
def ir13_v : List Nat := [0, 1, 4, 5, 6, 7, 8, 9]
def ir13 : AFn := ⟨2, 8, .seq (.region false [
    ⟨.var 2, 4, none, .newnil 1⟩,
    ⟨.var 3, 5, none, .mov (.c (.int .i64 (0)))⟩])
 (.seq (.region false [
    ⟨.push, 11, none, .mov (.v 0)⟩,
    ⟨.push, 12, none, .mov (.v 1)⟩,
    ⟨.push, 13, none, .call 33 [(.s 1), (.s 0)]⟩,
    ⟨.push, 10, none, .mov (.s 0)⟩,
    ⟨.push, 14, none, .ext (.s 0) 0⟩,
    ⟨.push, 15, none, .ext (.s 1) 1⟩,
    ⟨.var 4, 6, none, .mov (.s 1)⟩,
    ⟨.var 5, 7, none, .mov (.s 0)⟩])
 (.seq (.test false [
    ⟨.push, 16, none, .mov (.v 5)⟩,
    ⟨.push, 17, none, .bin false .neq (.s 0) (.c (.int .i64 (0)))⟩] (.s 0)
  (.seq (.region false [
      ⟨.push, 18, none, .mov (.v 5)⟩,
      ⟨.var 2, 4, none, .newnil 1⟩,
      ⟨.var 3, 5, none, .mov (.s 0)⟩])
   (.ret))
  (.skip))
 (.seq (.region false [
    ⟨.push, 19, none, .mkSl 1 (.int .i64 (0)) 0 []⟩,
    ⟨.var 6, 8, none, .mov (.s 0)⟩])
 (.seq (.seq (.region false [
     ⟨.var 7, 9, none, .mov (.c (.int .i64 (0)))⟩])
  (.block 0 (.loop ir13_k0 ir13_o0 ir13_r0 ir13_b0)))
 (.seq (.region false [
    ⟨.push, 50, none, .mov (.v 6)⟩,
    ⟨.var 2, 4, none, .mov (.s 0)⟩,
    ⟨.var 3, 5, none, .mov (.c (.int .i64 (0)))⟩])
 (.ret)))))), [.t 2, .t 3]⟩
noncomputable def t_spec_ValuesOf : List (Nat × Ctr) := [(33, c_spec_l27What)]
theorem lk_spec_ValuesOf_33 : look t_spec_ValuesOf 33 = some c_spec_l27What := rfl
noncomputable def c_spec_ValuesOf : Ctr := mkF t_spec_ValuesOf ir13 [.bor, .bor]
theorem s_spec_ValuesOf : Sound Tryd.prog 13 c_spec_ValuesOf := mkF_sound _ rfl (snd_cons s_spec_l27What snd_nil) (by kernel_rfl : chkFn Tryd.prog 13 ir13 ir13_v = true)
theorem M_spec_ValuesOf : c_spec_ValuesOf.modes = [.bor, .bor] := rfl
theorem Fl_spec_ValuesOf : c_spec_ValuesOf.flat = true := rfl
attribute [go_sem] M_spec_ValuesOf Fl_spec_ValuesOf
attribute [go_sem] lk_spec_ValuesOf_33
def E_spec_ValuesOf_l1 (what : List UInt8) (r : L27R) : ((List Int) × Int) → St
  | (out, i) => ⟨[.any, .str what, .any, .any, .ref 3200000 0 0, .any, .own 3200032, .int .i64 i], [], [(3200000, ⟨4, [L27R_av r]⟩), (3200032, ⟨1, List.map (AV.int .i64) out⟩)], true⟩
def R_spec_ValuesOf_l1 (what : List UInt8) (r : L27R) (y : (List Int)) : Res := (.exit 0, ⟨[.any, .any, .any, .any, .any, .any, .own 3200000, .any], [], [(3200000, ⟨1, List.map (AV.int .i64) y⟩)], true⟩)
theorem spec_ValuesOf_l1_ex {what : List UInt8} {r : L27R} {sgm_ : (List Int) × Int} {rho_ : (List Int)} (h : whileE (spec_ValuesOf_l1 what r) sgm_ = some rho_) : ∃ L0, ∀ L, L0 ≤ L → iter (exec (look t_spec_ValuesOf) L ir13_b0) ir13_k0 ir13_o0 ir13_r0 L (E_spec_ValuesOf_l1 what r sgm_) = R_spec_ValuesOf_l1 what r rho_ := by
  refine loop_ex (E := E_spec_ValuesOf_l1 what r) (R := R_spec_ValuesOf_l1 what r) (fun y => by first | (intro c; cases c) | (rcases y with y | y <;> (intro c; cases c)) | (rcases y with y | y | y <;> (intro c; cases c))) ?_ h
  clear h
  rintro ⟨out, i⟩ o_ h
  dsimp only [spec_ValuesOf_l1] at h
  rcases it_some h with ⟨hk3, h⟩ | ⟨hk3, h⟩
  · try simp only [go_sem, n1, n2, n3, n4] at hk3
    all_goals
    obtain ⟨hk4, h⟩ := ck_some h
    have lhk4 := ix_lt hk4
    have xhk4 := getD_mapD Entry_av r.list_ lhk4
    try simp only [go_sem] at lhk4
    try simp only [go_sem] at xhk4
    try simp only [go_sem, n1, n2, n3, n4, hk3] at hk4
    all_goals
    rcases it_some h with ⟨hk5, h⟩ | ⟨hk5, h⟩
    · try simp only [go_sem, n1, n2, n3, n4, hk3, hk4] at hk5
      all_goals
      obtain ⟨hk6, h⟩ := ck_some h
      try simp only [go_sem, n1, n2, n3, n4, hk3, hk4, hk5] at hk6
      all_goals
      obtain rfl := so_some h
      refine ⟨0, fun L hL => ?_⟩
      simp only [go_sem, ir13, E_spec_ValuesOf_l1, R_spec_ValuesOf_l1, ir13_b0, ir13_k0, ir13_o0, ir13_r0, hk3, hk4, lhk4, xhk4, hk5, hk6]
    · try simp only [go_sem, n1, n2, n3, n4, hk3, hk4] at hk5
      all_goals
      obtain rfl := so_some h
      refine ⟨0, fun L hL => ?_⟩
      simp only [go_sem, ir13, E_spec_ValuesOf_l1, R_spec_ValuesOf_l1, ir13_b0, ir13_k0, ir13_o0, ir13_r0, hk3, hk4, lhk4, xhk4, hk5]
  · try simp only [go_sem, n1, n2, n3, n4] at hk3
    all_goals
    obtain rfl := so_some h
    refine ⟨0, fun L hL => ?_⟩
    simp only [go_sem, ir13, E_spec_ValuesOf_l1, R_spec_ValuesOf_l1, ir13_b0, ir13_k0, ir13_o0, ir13_r0, hk3]

theorem Fs_spec_ValuesOf {log : List UInt8} {what : List UInt8} {y_ : (List Int) × Int} (h : spec_ValuesOf log what = some y_) : c_spec_ValuesOf.F [.str log, .str what] = ⟨true, .tup [.fresh 1 (List.map (AV.int .i64) y_.1), .int .i64 y_.2], [.any, .any]⟩ := by
  refine mkF_E (by simp only [flatA, flatB, flat1, List.all_cons, List.all_nil, Bool.and_self, flatE_map (f := (AV.int .i64)) (fun _ => rfl)]) ?_
  dsimp only [spec_ValuesOf] at h
  obtain ⟨y_1, hk1, h⟩ := bd_some h
  have fhk1 := Fs_spec_l27What hk1
  try simp only [go_sem] at fhk1
  rcases it_some h with ⟨hk2, h⟩ | ⟨hk2, h⟩
  · try simp only [go_sem, n1, n2, n3, n4] at hk2
    all_goals
    obtain rfl := so_some h
    refine ⟨0, fun L hL => ?_⟩
    simp only [go_sem, ir13, E_spec_ValuesOf_l1, R_spec_ValuesOf_l1, ir13_k0, ir13_o0, ir13_r0, fhk1, hk2]
  · try simp only [go_sem, n1, n2, n3, n4] at hk2
    all_goals
    obtain ⟨y_7, hk7, h⟩ := bd_some h
    obtain ⟨Lhk7, ehk7⟩ := spec_ValuesOf_l1_ex hk7
    obtain rfl := so_some h
    refine ⟨Lhk7, fun L hL => ?_⟩
    have ehk7 := ehk7 L (by omega)
    try simp only [go_sem, E_spec_ValuesOf_l1, R_spec_ValuesOf_l1, ir13_k0, ir13_o0, ir13_r0, hk2] at ehk7
    simp only [go_sem, ir13, E_spec_ValuesOf_l1, R_spec_ValuesOf_l1, ir13_k0, ir13_o0, ir13_r0, fhk1, hk2, ehk7]


def ir41_v : List Nat := [0, 1, 2, 3]
def ir41 : AFn := ⟨2, 4, .seq (.region false [
    ⟨.var 2, 2, none, .box (.v 0)⟩,
    ⟨.var 3, 3, none, .mov (.c (.bool false))⟩])
 (.seq (.region false [
    ⟨.push, 4, none, .fldAddr 1 (.v 2)⟩,
    ⟨.push, 5, none, .load false 1 (.s 0)⟩,
    ⟨.push, 6, none, .load false 1 (.v 1)⟩,
    ⟨.push, 7, none, .bin false .eql (.s 1) (.s 0)⟩,
    ⟨.var 3, 3, none, .mov (.s 0)⟩])
 (.ret)), [.t 3]⟩
noncomputable def t_impl_ValuesOf_c1 : List (Nat × Ctr) := []
noncomputable def c_impl_ValuesOf_c1 : Ctr := mkF t_impl_ValuesOf_c1 ir41 [.bor, .bor]
theorem s_impl_ValuesOf_c1 : Sound Tryd.prog 41 c_impl_ValuesOf_c1 := mkF_sound _ rfl snd_nil (by kernel_rfl : chkFn Tryd.prog 41 ir41 ir41_v = true)
theorem M_impl_ValuesOf_c1 : c_impl_ValuesOf_c1.modes = [.bor, .bor] := rfl
theorem Fl_impl_ValuesOf_c1 : c_impl_ValuesOf_c1.flat = true := rfl
attribute [go_sem] M_impl_ValuesOf_c1 Fl_impl_ValuesOf_c1
theorem Fs_impl_ValuesOf_c1 {e_ : Entry} {t1 : List UInt8} {y_ : Bool} (h : impl_ValuesOf_c1 e_ t1 = some y_) : c_impl_ValuesOf_c1.F [Entry_av e_, .ptr 1 [.str t1] 0 0] = ⟨true, .bool y_, [.any, .any]⟩ := by
  refine mkF_E rfl ?_
  dsimp only [impl_ValuesOf_c1] at h
  obtain rfl := so_some h
  refine ⟨0, fun L hL => ?_⟩
  simp only [go_sem, ir41]


noncomputable def t_impl_valuesOf__impl_ValuesOf_c1 : List (Nat × Ctr) := [(41, c_impl_ValuesOf_c1)]
theorem lk_impl_valuesOf__impl_ValuesOf_c1_41 : look t_impl_valuesOf__impl_ValuesOf_c1 41 = some c_impl_ValuesOf_c1 := rfl
noncomputable def c_impl_valuesOf__impl_ValuesOf_c1 : Ctr := mkF t_impl_valuesOf__impl_ValuesOf_c1 ir39 [.bor, .bor]
theorem s_impl_valuesOf__impl_ValuesOf_c1 : Sound Tryd.prog 39 c_impl_valuesOf__impl_ValuesOf_c1 := mkF_sound _ rfl (snd_cons s_impl_ValuesOf_c1 snd_nil) (by kernel_rfl : chkFn Tryd.prog 39 ir39 ir39_v = true)
theorem M_impl_valuesOf__impl_ValuesOf_c1 : c_impl_valuesOf__impl_ValuesOf_c1.modes = [.bor, .bor] := rfl
theorem Fl_impl_valuesOf__impl_ValuesOf_c1 : c_impl_valuesOf__impl_ValuesOf_c1.flat = true := rfl
attribute [go_sem] M_impl_valuesOf__impl_ValuesOf_c1 Fl_impl_valuesOf__impl_ValuesOf_c1
attribute [go_sem] lk_impl_valuesOf__impl_ValuesOf_c1_41
def E_impl_valuesOf__impl_ValuesOf_c1_l1 (c : List UInt8) (t9 : List Entry) (t10 : Int) : ((List Int) × Int) → St
  | (out, t11) => ⟨[.any, .fn (.func 41) [] [.ptr 1 [.str c] 0 0], .any, .own 3200000, .any, .sl 3 (List.map Entry_av t9), .int .i64 t10, .int .i64 t11, .any], [], [(3200000, ⟨1, List.map (AV.int .i64) out⟩)], true⟩
def R_impl_valuesOf__impl_ValuesOf_c1_l1 (c : List UInt8) (t9 : List Entry) (t10 : Int) (y : (List Int)) : Res := (.exit 0, ⟨[.any, .any, .any, .own 3200000, .any, .any, .any, .any, .any], [], [(3200000, ⟨1, List.map (AV.int .i64) y⟩)], true⟩)
theorem impl_valuesOf__impl_ValuesOf_c1_l1_ex {c : List UInt8} {t9 : List Entry} {t10 : Int} {sgm_ : (List Int) × Int} {rho_ : (List Int)} (h : whileE (impl_valuesOf__impl_ValuesOf_c1_l1 c t9 t10) sgm_ = some rho_) : ∃ L0, ∀ L, L0 ≤ L → iter (exec (look t_impl_valuesOf__impl_ValuesOf_c1) L ir39_b0) ir39_k0 ir39_o0 ir39_r0 L (E_impl_valuesOf__impl_ValuesOf_c1_l1 c t9 t10 sgm_) = R_impl_valuesOf__impl_ValuesOf_c1_l1 c t9 t10 rho_ := by
  refine loop_ex (E := E_impl_valuesOf__impl_ValuesOf_c1_l1 c t9 t10) (R := R_impl_valuesOf__impl_ValuesOf_c1_l1 c t9 t10) (fun y => by first | (intro c; cases c) | (rcases y with y | y <;> (intro c; cases c)) | (rcases y with y | y | y <;> (intro c; cases c))) ?_ h
  clear h
  rintro ⟨out, t11⟩ o_ h
  dsimp only [impl_valuesOf__impl_ValuesOf_c1_l1] at h
  rcases it_some h with ⟨hk1, h⟩ | ⟨hk1, h⟩
  · try simp only [go_sem, n1, n2, n3, n4] at hk1
    all_goals
    obtain ⟨hk2, h⟩ := ck_some h
    have lhk2 := ix_lt hk2
    have xhk2 := getD_mapD Entry_av t9 lhk2
    try simp only [go_sem] at lhk2
    try simp only [go_sem] at xhk2
    try simp only [go_sem, n1, n2, n3, n4, hk1] at hk2
    all_goals
    obtain ⟨y_3, hk3, h⟩ := bd_some h
    have fhk3 := Fs_impl_ValuesOf_c1 hk3
    try simp only [go_sem, hk1, hk2] at fhk3
    rcases it_some h with ⟨hk4, h⟩ | ⟨hk4, h⟩
    · try simp only [go_sem, n1, n2, n3, n4, hk1, hk2] at hk4
      all_goals
      obtain ⟨hk5, h⟩ := ck_some h
      try simp only [go_sem, n1, n2, n3, n4, hk1, hk2, hk4] at hk5
      all_goals
      obtain rfl := so_some h
      refine ⟨0, fun L hL => ?_⟩
      simp only [go_sem, ir39, E_impl_valuesOf__impl_ValuesOf_c1_l1, R_impl_valuesOf__impl_ValuesOf_c1_l1, ir39_b0, ir39_k0, ir39_o0, ir39_r0, hk1, hk2, lhk2, xhk2, fhk3, hk4, hk5]
    · try simp only [go_sem, n1, n2, n3, n4, hk1, hk2] at hk4
      all_goals
      obtain rfl := so_some h
      refine ⟨0, fun L hL => ?_⟩
      simp only [go_sem, ir39, E_impl_valuesOf__impl_ValuesOf_c1_l1, R_impl_valuesOf__impl_ValuesOf_c1_l1, ir39_b0, ir39_k0, ir39_o0, ir39_r0, hk1, hk2, lhk2, xhk2, fhk3, hk4]
  · try simp only [go_sem, n1, n2, n3, n4] at hk1
    all_goals
    obtain rfl := so_some h
    refine ⟨0, fun L hL => ?_⟩
    simp only [go_sem, ir39, E_impl_valuesOf__impl_ValuesOf_c1_l1, R_impl_valuesOf__impl_ValuesOf_c1_l1, ir39_b0, ir39_k0, ir39_o0, ir39_r0, hk1]

theorem Fs_impl_valuesOf__impl_ValuesOf_c1 {entries : List Entry} {wanted_c0 : List UInt8} {y_ : (List Int)} (h : impl_valuesOf__impl_ValuesOf_c1 entries wanted_c0 = some y_) : c_impl_valuesOf__impl_ValuesOf_c1.F [.sl 3 (List.map Entry_av entries), .fn (.func 41) [] [.ptr 1 [.str wanted_c0] 0 0]] = ⟨true, .fresh 1 (List.map (AV.int .i64) y_), [.any, .any]⟩ := by
  refine mkF_E (by simp only [flatA, flatB, flat1, List.all_cons, List.all_nil, Bool.and_self, flatE_map (f := (AV.int .i64)) (fun _ => rfl)]) ?_
  dsimp only [impl_valuesOf__impl_ValuesOf_c1] at h
  obtain ⟨y_6, hk6, h⟩ := bd_some h
  obtain ⟨Lhk6, ehk6⟩ := impl_valuesOf__impl_ValuesOf_c1_l1_ex hk6
  obtain rfl := so_some h
  refine ⟨Lhk6, fun L hL => ?_⟩
  have ehk6 := ehk6 L (by omega)
  try simp only [go_sem, E_impl_valuesOf__impl_ValuesOf_c1_l1, R_impl_valuesOf__impl_ValuesOf_c1_l1, ir39_k0, ir39_o0, ir39_r0] at ehk6
  simp only [go_sem, ir39, E_impl_valuesOf__impl_ValuesOf_c1_l1, R_impl_valuesOf__impl_ValuesOf_c1_l1, ir39_k0, ir39_o0, ir39_r0, ehk6]


def ir14_v : List Nat := [0, 1, 3, 4, 5, 6, 7]
def ir14 : AFn := ⟨2, 7, .seq (.region false [
    ⟨.var 2, 3, none, .box (.v 1)⟩,
    ⟨.var 3, 4, none, .newnil 1⟩,
    ⟨.var 4, 5, none, .mov (.c (.int .i64 (0)))⟩])
 (.seq (.region false [
    ⟨.push, 9, none, .mov (.v 0)⟩,
    ⟨.push, 10, none, .call 19 [(.s 0)]⟩,
    ⟨.push, 8, none, .mov (.s 0)⟩,
    ⟨.push, 11, none, .ext (.s 0) 0⟩,
    ⟨.push, 12, none, .ext (.s 1) 1⟩,
    ⟨.var 5, 6, none, .mov (.s 1)⟩,
    ⟨.var 6, 7, none, .mov (.s 0)⟩])
 (.seq (.block 0 (.test false [
     ⟨.push, 14, none, .mov (.v 6)⟩,
     ⟨.push, 15, none, .bin false .neq (.s 0) (.c (.int .i64 (0)))⟩,
     ⟨.push, 13, none, .mov (.s 0)⟩] (.s 0)
   (.seq (.region false [
       ⟨.push, 16, none, .mov (.v 6)⟩,
       ⟨.var 3, 4, none, .newnil 1⟩,
       ⟨.var 4, 5, none, .mov (.s 0)⟩])
    (.ret))
   (.test false [
      ⟨.push, 18, none, .load false 1 (.v 2)⟩,
      ⟨.push, 19, none, .call 36 [(.s 0)]⟩,
      ⟨.push, 20, none, .un .not (.s 0)⟩,
      ⟨.push, 17, none, .mov (.s 0)⟩] (.s 0)
    (.seq (.region false [
        ⟨.var 3, 4, none, .newnil 1⟩,
        ⟨.var 4, 5, none, .mov (.c (.int .i64 (2)))⟩])
     (.ret))
    (.skip))))
 (.seq (.region false [
    ⟨.push, 21, none, .mov (.v 5)⟩,
    ⟨.push, 22, none, .mkFn (.func 41) [] [(.v 2)]⟩,
    ⟨.push, 23, none, .call 39 [(.s 1), (.s 0)]⟩,
    ⟨.var 3, 4, none, .mov (.s 0)⟩,
    ⟨.var 4, 5, none, .mov (.c (.int .i64 (0)))⟩])
 (.ret)))), [.t 3, .t 4]⟩
noncomputable def t_impl_ValuesOf : List (Nat × Ctr) := [(19, c_impl_EntriesOf), (36, c_impl_IsName), (39, c_impl_valuesOf__impl_ValuesOf_c1)]
theorem lk_impl_ValuesOf_19 : look t_impl_ValuesOf 19 = some c_impl_EntriesOf := rfl
theorem lk_impl_ValuesOf_36 : look t_impl_ValuesOf 36 = some c_impl_IsName := rfl
theorem lk_impl_ValuesOf_39 : look t_impl_ValuesOf 39 = some c_impl_valuesOf__impl_ValuesOf_c1 := rfl
noncomputable def c_impl_ValuesOf : Ctr := mkF t_impl_ValuesOf ir14 [.bor, .bor]
theorem s_impl_ValuesOf : Sound Tryd.prog 14 c_impl_ValuesOf := mkF_sound _ rfl (snd_cons s_impl_EntriesOf (snd_cons s_impl_IsName (snd_cons s_impl_valuesOf__impl_ValuesOf_c1 snd_nil))) (by kernel_rfl : chkFn Tryd.prog 14 ir14 ir14_v = true)
theorem M_impl_ValuesOf : c_impl_ValuesOf.modes = [.bor, .bor] := rfl
theorem Fl_impl_ValuesOf : c_impl_ValuesOf.flat = true := rfl
attribute [go_sem] M_impl_ValuesOf Fl_impl_ValuesOf
attribute [go_sem] lk_impl_ValuesOf_19 lk_impl_ValuesOf_36 lk_impl_ValuesOf_39
theorem Fs_impl_ValuesOf {log : List UInt8} {what : List UInt8} {y_ : (List Int) × Int} (h : impl_ValuesOf log what = some y_) : c_impl_ValuesOf.F [.str log, .str what] = ⟨true, .tup [.fresh 1 (List.map (AV.int .i64) y_.1), .int .i64 y_.2], [.any, .any]⟩ := by
  refine mkF_E (by simp only [flatA, flatB, flat1, List.all_cons, List.all_nil, Bool.and_self, flatE_map (f := (AV.int .i64)) (fun _ => rfl)]) ?_
  dsimp only [impl_ValuesOf] at h
  obtain ⟨y_1, hk1, h⟩ := bd_some h
  have fhk1 := Fs_impl_EntriesOf hk1
  try simp only [go_sem] at fhk1
  rcases it_some h with ⟨hk2, h⟩ | ⟨hk2, h⟩
  · try simp only [go_sem, n1, n2, n3, n4] at hk2
    all_goals
    obtain rfl := so_some h
    refine ⟨0, fun L hL => ?_⟩
    simp only [go_sem, ir14, fhk1, hk2]
  · try simp only [go_sem, n1, n2, n3, n4] at hk2
    all_goals
    obtain ⟨y_3, hk3, h⟩ := bd_some h
    have fhk3 := Fs_impl_IsName hk3
    try simp only [go_sem, hk2] at fhk3
    rcases it_some h with ⟨hk4, h⟩ | ⟨hk4, h⟩
    · try simp only [go_sem, n1, n2, n3, n4, hk2] at hk4
      all_goals
      obtain rfl := so_some h
      refine ⟨0, fun L hL => ?_⟩
      simp only [go_sem, ir14, fhk1, hk2, fhk3, hk4]
    · try simp only [go_sem, n1, n2, n3, n4, hk2] at hk4
      all_goals
      obtain ⟨y_5, hk5, h⟩ := bd_some h
      have fhk5 := Fs_impl_valuesOf__impl_ValuesOf_c1 hk5
      try simp only [go_sem, hk2, hk4] at fhk5
      obtain rfl := so_some h
      refine ⟨0, fun L hL => ?_⟩
      simp only [go_sem, ir14, fhk1, hk2, fhk3, hk4, fhk5]


def ir15_b0 : IR := .seq (.test false [
    ⟨.push, 11, none, .mov (.v 3)⟩,
    ⟨.push, 12, none, .mov (.v 0)⟩,
    ⟨.push, 13, none, .len false (.s 0)⟩,
    ⟨.push, 14, none, .bin false .lss (.s 2) (.s 0)⟩] (.s 0)
  (.skip)
  (.exit 0))
 (.seq (.block 1 (.anyo 9 [
     ⟨.slot 0, 17, none, .mov (.v 0)⟩,
     ⟨.slot 1, 18, none, .mov (.v 3)⟩,
     ⟨.slot 2, 19, none, .ixAddr 1 (.s 0) (.s 1)⟩,
     ⟨.slot 3, 20, none, .load false 1 (.s 2)⟩,
     ⟨.slot 4, 21, none, .mov (.v 1)⟩,
     ⟨.slot 5, 22, none, .mov (.v 3)⟩,
     ⟨.slot 6, 23, none, .ixAddr 1 (.s 4) (.s 5)⟩,
     ⟨.slot 7, 24, none, .load false 1 (.s 6)⟩,
     ⟨.slot 8, 25, none, .bin false .neq (.s 3) (.s 7)⟩] [] (.cond (.s 8)
   (.seq (.region false [
       ⟨.var 2, 4, none, .mov (.c (.bool false))⟩])
    (.ret))
   (.skip))))
 (.region false [
   ⟨.push, 15, none, .mov (.v 3)⟩,
   ⟨.push, 16, none, .bin false .add (.s 0) (.c (.int .i64 (1)))⟩,
   ⟨.var 3, 5, none, .mov (.s 0)⟩]))
def ir15_k0 : List Bool := [true, true, false, true]
def ir15_o0 : List Bool := [false, false, false, false]
def ir15_r0 : List Bool := [false, false, true, false]
def ir15_v : List Nat := [0, 1, 4, 5]
def ir15 : AFn := ⟨2, 4, .seq (.region false [
    ⟨.var 2, 4, none, .mov (.c (.bool false))⟩])
 (.seq (.test false [
    ⟨.push, 6, none, .mov (.v 0)⟩,
    ⟨.push, 7, none, .len false (.s 0)⟩,
    ⟨.push, 8, none, .mov (.v 1)⟩,
    ⟨.push, 9, none, .len false (.s 0)⟩,
    ⟨.push, 10, none, .bin false .neq (.s 2) (.s 0)⟩] (.s 0)
  (.seq (.region false [
      ⟨.var 2, 4, none, .mov (.c (.bool false))⟩])
   (.ret))
  (.skip))
 (.seq (.seq (.region false [
     ⟨.var 3, 5, none, .mov (.c (.int .i64 (0)))⟩])
  (.block 0 (.loop ir15_k0 ir15_o0 ir15_r0 ir15_b0)))
 (.seq (.region false [
    ⟨.var 2, 4, none, .mov (.c (.bool true))⟩])
 (.ret)))), [.t 2]⟩
noncomputable def t_laws_eqInt64S : List (Nat × Ctr) := []
noncomputable def c_laws_eqInt64S : Ctr := mkF t_laws_eqInt64S ir15 [.bor, .bor]
theorem s_laws_eqInt64S : Sound Tryd.prog 15 c_laws_eqInt64S := mkF_sound _ rfl snd_nil (by kernel_rfl : chkFn Tryd.prog 15 ir15 ir15_v = true)
theorem M_laws_eqInt64S : c_laws_eqInt64S.modes = [.bor, .bor] := rfl
theorem Fl_laws_eqInt64S : c_laws_eqInt64S.flat = true := rfl
attribute [go_sem] M_laws_eqInt64S Fl_laws_eqInt64S
def E_laws_eqInt64S_l1 (a : List Int) (b : List Int) : Int → St
  | i => ⟨[.sl 1 (List.map (AV.int .i64) a), .sl 1 (List.map (AV.int .i64) b), .any, .int .i64 i], [], [], true⟩
def R_laws_eqInt64S_l1 (a : List Int) (b : List Int) : (Unit ⊕ Bool) → Res
  | .inl y => (.exit 0, ⟨[.any, .any, .any, .any], [], [], true⟩)
  | .inr y => (.ret, ⟨[.any, .any, .bool y, .any], [], [], true⟩)
theorem laws_eqInt64S_l1_ex {a : List Int} {b : List Int} {sgm_ : Int} {rho_ : Unit ⊕ Bool} (h : whileE (laws_eqInt64S_l1 a b) sgm_ = some rho_) : ∃ L0, ∀ L, L0 ≤ L → iter (exec (look t_laws_eqInt64S) L ir15_b0) ir15_k0 ir15_o0 ir15_r0 L (E_laws_eqInt64S_l1 a b sgm_) = R_laws_eqInt64S_l1 a b rho_ := by
  refine loop_ex (E := E_laws_eqInt64S_l1 a b) (R := R_laws_eqInt64S_l1 a b) (fun y => by first | (intro c; cases c) | (rcases y with y | y <;> (intro c; cases c)) | (rcases y with y | y | y <;> (intro c; cases c))) ?_ h
  clear h
  intro i o_ h
  dsimp only [laws_eqInt64S_l1] at h
  rcases it_some h with ⟨hk2, h⟩ | ⟨hk2, h⟩
  · try simp only [go_sem, n1, n2, n3, n4] at hk2
    all_goals
    obtain ⟨hk3, h⟩ := ck_some h
    have lhk3 := ix_lt hk3
    have xhk3 := getD_mapD (AV.int .i64) a lhk3
    try simp only [go_sem] at lhk3
    try simp only [go_sem] at xhk3
    try simp only [go_sem, n1, n2, n3, n4, hk2] at hk3
    all_goals
    obtain ⟨hk4, h⟩ := ck_some h
    have lhk4 := ix_lt hk4
    have xhk4 := getD_mapD (AV.int .i64) b lhk4
    try simp only [go_sem] at lhk4
    try simp only [go_sem] at xhk4
    try simp only [go_sem, n1, n2, n3, n4, hk2, hk3] at hk4
    all_goals
    rcases it_some h with ⟨hk5, h⟩ | ⟨hk5, h⟩
    · try simp only [go_sem, n1, n2, n3, n4, hk2, hk3, hk4] at hk5
      all_goals
      obtain rfl := so_some h
      refine ⟨0, fun L hL => ?_⟩
      simp only [go_sem, ir15, E_laws_eqInt64S_l1, R_laws_eqInt64S_l1, ir15_b0, ir15_k0, ir15_o0, ir15_r0, hk2, hk3, lhk3, xhk3, hk4, lhk4, xhk4, hk5]
    · try simp only [go_sem, n1, n2, n3, n4, hk2, hk3, hk4] at hk5
      all_goals
      obtain rfl := so_some h
      refine ⟨0, fun L hL => ?_⟩
      simp only [go_sem, ir15, E_laws_eqInt64S_l1, R_laws_eqInt64S_l1, ir15_b0, ir15_k0, ir15_o0, ir15_r0, hk2, hk3, lhk3, xhk3, hk4, lhk4, xhk4, hk5]
  · try simp only [go_sem, n1, n2, n3, n4] at hk2
    all_goals
    obtain rfl := so_some h
    refine ⟨0, fun L hL => ?_⟩
    simp only [go_sem, ir15, E_laws_eqInt64S_l1, R_laws_eqInt64S_l1, ir15_b0, ir15_k0, ir15_o0, ir15_r0, hk2]

theorem Fs_laws_eqInt64S {a : List Int} {b : List Int} {y_ : Bool} (h : laws_eqInt64S a b = some y_) : c_laws_eqInt64S.F [.sl 1 (List.map (AV.int .i64) a), .sl 1 (List.map (AV.int .i64) b)] = ⟨true, .bool y_, [.any, .any]⟩ := by
  refine mkF_E rfl ?_
  dsimp only [laws_eqInt64S] at h
  rcases it_some h with ⟨hk1, h⟩ | ⟨hk1, h⟩
  · try simp only [go_sem, n1, n2, n3, n4] at hk1
    all_goals
    obtain rfl := so_some h
    refine ⟨0, fun L hL => ?_⟩
    simp only [go_sem, ir15, E_laws_eqInt64S_l1, R_laws_eqInt64S_l1, ir15_k0, ir15_o0, ir15_r0, hk1]
  · try simp only [go_sem, n1, n2, n3, n4] at hk1
    all_goals
    obtain ⟨y_6, hk6, h⟩ := bd_some h
    obtain ⟨Lhk6, ehk6⟩ := laws_eqInt64S_l1_ex hk6
    rcases y_6 with y_6a | y_6b
    · dsimp only at h
      obtain rfl := so_some h
      refine ⟨Lhk6, fun L hL => ?_⟩
      have ehk6 := ehk6 L (by omega)
      try simp only [go_sem, E_laws_eqInt64S_l1, R_laws_eqInt64S_l1, ir15_k0, ir15_o0, ir15_r0, hk1] at ehk6
      simp only [go_sem, ir15, E_laws_eqInt64S_l1, R_laws_eqInt64S_l1, ir15_k0, ir15_o0, ir15_r0, hk1, ehk6]
    · dsimp only at h
      obtain rfl := so_some h
      refine ⟨Lhk6, fun L hL => ?_⟩
      have ehk6 := ehk6 L (by omega)
      try simp only [go_sem, E_laws_eqInt64S_l1, R_laws_eqInt64S_l1, ir15_k0, ir15_o0, ir15_r0, hk1] at ehk6
      simp only [go_sem, ir15, E_laws_eqInt64S_l1, R_laws_eqInt64S_l1, ir15_k0, ir15_o0, ir15_r0, hk1, ehk6]


def ir16_b0 : IR := .seq (.test false [
    ⟨.push, 6, none, .mov (.v 3)⟩,
    ⟨.push, 7, none, .mov (.v 0)⟩,
    ⟨.push, 8, none, .len false (.s 0)⟩,
    ⟨.push, 9, none, .bin false .lss (.s 2) (.s 0)⟩] (.s 0)
  (.skip)
  (.exit 0))
 (.seq (.block 1 (.seq (.region false [
      ⟨.push, 12, none, .mov (.v 0)⟩,
      ⟨.push, 13, none, .mov (.v 3)⟩,
      ⟨.push, 14, none, .mov (.v 1)⟩,
      ⟨.push, 15, none, .ixAddr 1 (.s 2) (.s 1)⟩,
      ⟨.no, 0, none, .store 1 (.s 0) (.s 1)⟩])
   (.region false [
     ⟨.push, 16, none, .mov (.v 1)⟩,
     ⟨.push, 17, none, .bin false .add (.s 0) (.c (.int .i64 (1)))⟩,
     ⟨.var 1, 1, none, .mov (.s 0)⟩])))
 (.region false [
   ⟨.push, 10, none, .mov (.v 3)⟩,
   ⟨.push, 11, none, .bin false .add (.s 0) (.c (.int .i64 (1)))⟩,
   ⟨.var 3, 5, none, .mov (.s 0)⟩]))
def ir16_k0 : List Bool := [true, true, false, true]
def ir16_o0 : List Bool := [true, true, false, false]
def ir16_r0 : List Bool := [true, false, true, false]
def ir16_v : List Nat := [0, 1, 4, 5]
def ir16 : AFn := ⟨2, 4, .seq (.region false [
    ⟨.var 2, 4, none, .mov (.c (.int .i64 (0)))⟩])
 (.seq (.seq (.region false [
     ⟨.var 3, 5, none, .mov (.c (.int .i64 (0)))⟩])
  (.block 0 (.loop ir16_k0 ir16_o0 ir16_r0 ir16_b0)))
 (.seq (.region false [
    ⟨.push, 18, none, .mov (.v 1)⟩,
    ⟨.var 2, 4, none, .mov (.s 0)⟩])
 (.ret))), [.t 2]⟩
noncomputable def t_laws_markInt64S : List (Nat × Ctr) := []
noncomputable def c_laws_markInt64S : Ctr := mkN t_laws_markInt64S ir16 [.io, .bor]
theorem s_laws_markInt64S : Sound Tryd.prog 16 c_laws_markInt64S := mkN_sound _ snd_nil (by kernel_rfl : chkFn Tryd.prog 16 ir16 ir16_v = true)
theorem M_laws_markInt64S : c_laws_markInt64S.modes = [.io, .bor] := rfl
theorem Fl_laws_markInt64S : c_laws_markInt64S.flat = false := rfl
attribute [go_sem] M_laws_markInt64S Fl_laws_markInt64S
def E_laws_markInt64S_l1  : ((List Int) × Int × Int) → St
  | (a, k, i) => ⟨[.own 31, .int .i64 k, .any, .int .i64 i], [], [(31, ⟨1, List.map (AV.int .i64) a⟩)], true⟩
def R_laws_markInt64S_l1  (y : (List Int) × Int) : Res := (.exit 0, ⟨[.own 31, .int .i64 y.2, .any, .any], [], [(31, ⟨1, List.map (AV.int .i64) y.1⟩)], true⟩)
theorem laws_markInt64S_l1_ex  {sgm_ : (List Int) × Int × Int} {rho_ : (List Int) × Int} (h : whileE (laws_markInt64S_l1) sgm_ = some rho_) : ∃ L0, ∀ L, L0 ≤ L → iter (exec (look t_laws_markInt64S) L ir16_b0) ir16_k0 ir16_o0 ir16_r0 L (E_laws_markInt64S_l1 sgm_) = R_laws_markInt64S_l1 rho_ := by
  refine loop_ex (E := E_laws_markInt64S_l1) (R := R_laws_markInt64S_l1) (fun y => by first | (intro c; cases c) | (rcases y with y | y <;> (intro c; cases c)) | (rcases y with y | y | y <;> (intro c; cases c))) ?_ h
  clear h
  rintro ⟨a, k, i⟩ o_ h
  dsimp only [laws_markInt64S_l1] at h
  rcases it_some h with ⟨hk1, h⟩ | ⟨hk1, h⟩
  · try simp only [go_sem, n1, n2, n3, n4] at hk1
    all_goals
    obtain ⟨hk2, h⟩ := ck_some h
    have lhk2 := ix_lt hk2
    have xhk2 := getD_mapD (AV.int .i64) a lhk2
    try simp only [go_sem] at lhk2
    try simp only [go_sem] at xhk2
    try simp only [go_sem, n1, n2, n3, n4, hk1] at hk2
    all_goals
    obtain rfl := so_some h
    refine ⟨0, fun L hL => ?_⟩
    simp only [go_sem, ir16, E_laws_markInt64S_l1, R_laws_markInt64S_l1, ir16_b0, ir16_k0, ir16_o0, ir16_r0, hk1, hk2, lhk2, xhk2]
  · try simp only [go_sem, n1, n2, n3, n4] at hk1
    all_goals
    obtain rfl := so_some h
    refine ⟨0, fun L hL => ?_⟩
    simp only [go_sem, ir16, E_laws_markInt64S_l1, R_laws_markInt64S_l1, ir16_b0, ir16_k0, ir16_o0, ir16_r0, hk1]

theorem Fs_laws_markInt64S {a : List Int} {k : Int} {y_ : Int × (List Int)} (h : laws_markInt64S a k = some y_) : c_laws_markInt64S.F [.fresh 1 (List.map (AV.int .i64) a), .int .i64 k] = ⟨true, .int .i64 y_.1, [.fresh 1 (List.map (AV.int .i64) y_.2), .any]⟩ := by
  refine mkN_E ?_
  dsimp only [laws_markInt64S] at h
  obtain ⟨y_3, hk3, h⟩ := bd_some h
  obtain ⟨Lhk3, ehk3⟩ := laws_markInt64S_l1_ex hk3
  obtain ⟨hk4, h⟩ := ck_some h
  try simp only [go_sem, n1, n2, n3, n4] at hk4
  all_goals
  obtain rfl := so_some h
  refine ⟨Lhk3, fun L hL => ?_⟩
  have ehk3 := ehk3 L (by omega)
  try simp only [go_sem, E_laws_markInt64S_l1, R_laws_markInt64S_l1, ir16_k0, ir16_o0, ir16_r0, hk4] at ehk3
  simp only [go_sem, ir16, E_laws_markInt64S_l1, R_laws_markInt64S_l1, ir16_k0, ir16_o0, ir16_r0, hk4, ehk3]


def ir17_b0 : IR := .seq (.test false [
    ⟨.push, 6, none, .mov (.v 3)⟩,
    ⟨.push, 7, none, .mov (.v 0)⟩,
    ⟨.push, 8, none, .len false (.s 0)⟩,
    ⟨.push, 9, none, .bin false .lss (.s 2) (.s 0)⟩] (.s 0)
  (.skip)
  (.exit 0))
 (.seq (.block 1 (.seq (.test false [
      ⟨.push, 12, none, .mov (.v 0)⟩,
      ⟨.push, 13, none, .mov (.v 3)⟩,
      ⟨.push, 14, none, .ixAddr 1 (.s 1) (.s 0)⟩,
      ⟨.push, 15, none, .load false 1 (.s 0)⟩,
      ⟨.push, 16, none, .mov (.v 1)⟩,
      ⟨.push, 17, none, .bin false .neq (.s 1) (.s 0)⟩] (.s 0)
    (.seq (.region false [
        ⟨.var 2, 4, none, .mov (.c (.int .i64 (-1)))⟩])
     (.ret))
    (.skip))
   (.region false [
     ⟨.push, 18, none, .mov (.v 1)⟩,
     ⟨.push, 19, none, .bin false .add (.s 0) (.c (.int .i64 (1)))⟩,
     ⟨.var 1, 1, none, .mov (.s 0)⟩])))
 (.region false [
   ⟨.push, 10, none, .mov (.v 3)⟩,
   ⟨.push, 11, none, .bin false .add (.s 0) (.c (.int .i64 (1)))⟩,
   ⟨.var 3, 5, none, .mov (.s 0)⟩]))
def ir17_k0 : List Bool := [true, true, false, true]
def ir17_o0 : List Bool := [false, true, false, false]
def ir17_r0 : List Bool := [false, false, true, false]
def ir17_v : List Nat := [0, 1, 4, 5]
def ir17 : AFn := ⟨2, 4, .seq (.region false [
    ⟨.var 2, 4, none, .mov (.c (.int .i64 (0)))⟩])
 (.seq (.seq (.region false [
     ⟨.var 3, 5, none, .mov (.c (.int .i64 (0)))⟩])
  (.block 0 (.loop ir17_k0 ir17_o0 ir17_r0 ir17_b0)))
 (.seq (.region false [
    ⟨.push, 20, none, .mov (.v 1)⟩,
    ⟨.var 2, 4, none, .mov (.s 0)⟩])
 (.ret))), [.t 2]⟩
noncomputable def t_laws_heldInt64S : List (Nat × Ctr) := []
noncomputable def c_laws_heldInt64S : Ctr := mkF t_laws_heldInt64S ir17 [.bor, .bor]
theorem s_laws_heldInt64S : Sound Tryd.prog 17 c_laws_heldInt64S := mkF_sound _ rfl snd_nil (by kernel_rfl : chkFn Tryd.prog 17 ir17 ir17_v = true)
theorem M_laws_heldInt64S : c_laws_heldInt64S.modes = [.bor, .bor] := rfl
theorem Fl_laws_heldInt64S : c_laws_heldInt64S.flat = true := rfl
attribute [go_sem] M_laws_heldInt64S Fl_laws_heldInt64S
def E_laws_heldInt64S_l1 (a : List Int) : (Int × Int) → St
  | (k, i) => ⟨[.sl 1 (List.map (AV.int .i64) a), .int .i64 k, .any, .int .i64 i], [], [], true⟩
def R_laws_heldInt64S_l1 (a : List Int) : (Int ⊕ Int) → Res
  | .inl y => (.exit 0, ⟨[.any, .int .i64 y, .any, .any], [], [], true⟩)
  | .inr y => (.ret, ⟨[.any, .any, .int .i64 y, .any], [], [], true⟩)
theorem laws_heldInt64S_l1_ex {a : List Int} {sgm_ : Int × Int} {rho_ : Int ⊕ Int} (h : whileE (laws_heldInt64S_l1 a) sgm_ = some rho_) : ∃ L0, ∀ L, L0 ≤ L → iter (exec (look t_laws_heldInt64S) L ir17_b0) ir17_k0 ir17_o0 ir17_r0 L (E_laws_heldInt64S_l1 a sgm_) = R_laws_heldInt64S_l1 a rho_ := by
  refine loop_ex (E := E_laws_heldInt64S_l1 a) (R := R_laws_heldInt64S_l1 a) (fun y => by first | (intro c; cases c) | (rcases y with y | y <;> (intro c; cases c)) | (rcases y with y | y | y <;> (intro c; cases c))) ?_ h
  clear h
  rintro ⟨k, i⟩ o_ h
  dsimp only [laws_heldInt64S_l1] at h
  rcases it_some h with ⟨hk1, h⟩ | ⟨hk1, h⟩
  · try simp only [go_sem, n1, n2, n3, n4] at hk1
    all_goals
    obtain ⟨hk2, h⟩ := ck_some h
    have lhk2 := ix_lt hk2
    have xhk2 := getD_mapD (AV.int .i64) a lhk2
    try simp only [go_sem] at lhk2
    try simp only [go_sem] at xhk2
    try simp only [go_sem, n1, n2, n3, n4, hk1] at hk2
    all_goals
    rcases it_some h with ⟨hk3, h⟩ | ⟨hk3, h⟩
    · try simp only [go_sem, n1, n2, n3, n4, hk1, hk2] at hk3
      all_goals
      obtain rfl := so_some h
      refine ⟨0, fun L hL => ?_⟩
      simp only [go_sem, ir17, E_laws_heldInt64S_l1, R_laws_heldInt64S_l1, ir17_b0, ir17_k0, ir17_o0, ir17_r0, hk1, hk2, lhk2, xhk2, hk3]
    · try simp only [go_sem, n1, n2, n3, n4, hk1, hk2] at hk3
      all_goals
      obtain rfl := so_some h
      refine ⟨0, fun L hL => ?_⟩
      simp only [go_sem, ir17, E_laws_heldInt64S_l1, R_laws_heldInt64S_l1, ir17_b0, ir17_k0, ir17_o0, ir17_r0, hk1, hk2, lhk2, xhk2, hk3]
  · try simp only [go_sem, n1, n2, n3, n4] at hk1
    all_goals
    obtain rfl := so_some h
    refine ⟨0, fun L hL => ?_⟩
    simp only [go_sem, ir17, E_laws_heldInt64S_l1, R_laws_heldInt64S_l1, ir17_b0, ir17_k0, ir17_o0, ir17_r0, hk1]

theorem Fs_laws_heldInt64S {a : List Int} {k : Int} {y_ : Int} (h : laws_heldInt64S a k = some y_) : c_laws_heldInt64S.F [.sl 1 (List.map (AV.int .i64) a), .int .i64 k] = ⟨true, .int .i64 y_, [.any, .any]⟩ := by
  refine mkF_E rfl ?_
  dsimp only [laws_heldInt64S] at h
  obtain ⟨y_4, hk4, h⟩ := bd_some h
  obtain ⟨Lhk4, ehk4⟩ := laws_heldInt64S_l1_ex hk4
  rcases y_4 with y_4a | y_4b
  · dsimp only at h
    obtain rfl := so_some h
    refine ⟨Lhk4, fun L hL => ?_⟩
    have ehk4 := ehk4 L (by omega)
    try simp only [go_sem, E_laws_heldInt64S_l1, R_laws_heldInt64S_l1, ir17_k0, ir17_o0, ir17_r0] at ehk4
    simp only [go_sem, ir17, E_laws_heldInt64S_l1, R_laws_heldInt64S_l1, ir17_k0, ir17_o0, ir17_r0, ehk4]
  · dsimp only at h
    obtain rfl := so_some h
    refine ⟨Lhk4, fun L hL => ?_⟩
    have ehk4 := ehk4 L (by omega)
    try simp only [go_sem, E_laws_heldInt64S_l1, R_laws_heldInt64S_l1, ir17_k0, ir17_o0, ir17_r0] at ehk4
    simp only [go_sem, ir17, E_laws_heldInt64S_l1, R_laws_heldInt64S_l1, ir17_k0, ir17_o0, ir17_r0, ehk4]


def ir5_v : List Nat := [0, 1, 4, 5, 6, 7, 8, 9, 10, 11, 12]
def ir5 : AFn := ⟨2, 11, .seq (.region false [
    ⟨.var 2, 4, none, .mov (.c (.bool false))⟩])
 (.seq (.test false [
    ⟨.push, 13, none, .mov (.v 0)⟩,
    ⟨.push, 14, none, .len true (.s 0)⟩,
    ⟨.push, 15, none, .bin false .gtr (.s 0) (.c (.int .i64 (1048576)))⟩] (.s 0)
  (.seq (.region false [
      ⟨.var 2, 4, none, .mov (.c (.bool true))⟩])
   (.ret))
  (.skip))
 (.seq (.test false [
    ⟨.push, 16, none, .mov (.v 1)⟩,
    ⟨.push, 17, none, .len true (.s 0)⟩,
    ⟨.push, 18, none, .bin false .gtr (.s 0) (.c (.int .i64 (1048576)))⟩] (.s 0)
  (.seq (.region false [
      ⟨.var 2, 4, none, .mov (.c (.bool true))⟩])
   (.ret))
  (.skip))
 (.seq (.region false [
    ⟨.push, 20, none, .mov (.v 0)⟩,
    ⟨.push, 21, none, .mov (.v 1)⟩,
    ⟨.push, 22, none, .call 13 [(.s 1), (.s 0)]⟩,
    ⟨.push, 19, none, .mov (.s 0)⟩,
    ⟨.push, 23, none, .ext (.s 0) 0⟩,
    ⟨.push, 24, none, .ext (.s 1) 1⟩,
    ⟨.var 3, 5, none, .mov (.s 1)⟩,
    ⟨.var 4, 6, none, .mov (.s 0)⟩])
 (.seq (.region false [
    ⟨.push, 26, none, .mov (.v 0)⟩,
    ⟨.push, 27, none, .mov (.v 1)⟩,
    ⟨.push, 28, none, .call 14 [(.s 1), (.s 0)]⟩,
    ⟨.push, 25, none, .mov (.s 0)⟩,
    ⟨.push, 29, none, .ext (.s 0) 0⟩,
    ⟨.push, 30, none, .ext (.s 1) 1⟩,
    ⟨.var 5, 7, none, .mov (.s 1)⟩,
    ⟨.var 6, 8, none, .mov (.s 0)⟩])
 (.seq (.test false [
    ⟨.push, 31, none, .mov (.v 5)⟩,
    ⟨.push, 32, none, .mov (.v 3)⟩,
    ⟨.push, 33, none, .call 15 [(.s 1), (.s 0)]⟩,
    ⟨.push, 34, none, .un .not (.s 0)⟩,
    ⟨.push, 35, none, .mov (.s 0)⟩,
    ⟨.push, 36, (some ((.s 0), false)), .mov (.v 6)⟩,
    ⟨.push, 37, (some ((.s 1), false)), .mov (.v 4)⟩,
    ⟨.push, 38, (some ((.s 2), false)), .bin false .neq (.s 1) (.s 0)⟩,
    ⟨.push, 39, none, .pick (.s 3) (.c (.bool true)) (.s 0)⟩] (.s 0)
  (.seq (.region false [
      ⟨.var 2, 4, none, .mov (.c (.bool false))⟩])
   (.ret))
  (.skip))
 (.seq (.region false [
    ⟨.var 7, 9, none, .mov (.c (.int .i64 (1)))⟩])
 (.seq (.region false [
    ⟨.push, 40, none, .mov (.v 5)⟩,
    ⟨.push, 41, none, .mov (.v 7)⟩,
    ⟨.push, 42, none, .call 16 [(.s 1), (.s 0)]⟩,
    ⟨.var 7, 9, none, .mov (.s 0)⟩])
 (.seq (.region false [
    ⟨.var 8, 10, none, .mov (.c (.int .i64 (1)))⟩])
 (.seq (.region false [
    ⟨.push, 43, none, .mov (.v 5)⟩,
    ⟨.push, 44, none, .mov (.v 8)⟩,
    ⟨.push, 45, none, .call 17 [(.s 1), (.s 0)]⟩,
    ⟨.var 8, 10, none, .mov (.s 0)⟩])
 (.seq (.test false [
    ⟨.push, 46, none, .mov (.v 8)⟩,
    ⟨.push, 47, none, .bin false .lss (.s 0) (.c (.int .i64 (0)))⟩] (.s 0)
  (.seq (.region false [
      ⟨.var 2, 4, none, .mov (.c (.bool false))⟩])
   (.ret))
  (.skip))
 (.seq (.test false [
    ⟨.push, 48, none, .mov (.v 8)⟩,
    ⟨.push, 49, none, .mov (.v 7)⟩,
    ⟨.push, 50, none, .bin false .neq (.s 1) (.s 0)⟩] (.s 0)
  (.seq (.region false [
      ⟨.var 2, 4, none, .mov (.c (.bool false))⟩])
   (.ret))
  (.skip))
 (.seq (.region false [
    ⟨.push, 52, none, .mov (.v 0)⟩,
    ⟨.push, 53, none, .mov (.v 1)⟩,
    ⟨.push, 54, none, .call 14 [(.s 1), (.s 0)]⟩,
    ⟨.push, 51, none, .mov (.s 0)⟩,
    ⟨.push, 55, none, .ext (.s 0) 0⟩,
    ⟨.push, 56, none, .ext (.s 1) 1⟩,
    ⟨.var 9, 11, none, .mov (.s 1)⟩,
    ⟨.var 10, 12, none, .mov (.s 0)⟩])
 (.seq (.test false [
    ⟨.push, 57, none, .mov (.v 9)⟩,
    ⟨.push, 58, none, .mov (.v 3)⟩,
    ⟨.push, 59, none, .call 15 [(.s 1), (.s 0)]⟩,
    ⟨.push, 60, none, .un .not (.s 0)⟩,
    ⟨.push, 61, none, .mov (.s 0)⟩,
    ⟨.push, 62, (some ((.s 0), false)), .mov (.v 10)⟩,
    ⟨.push, 63, (some ((.s 1), false)), .mov (.v 4)⟩,
    ⟨.push, 64, (some ((.s 2), false)), .bin false .neq (.s 1) (.s 0)⟩,
    ⟨.push, 65, none, .pick (.s 3) (.c (.bool true)) (.s 0)⟩] (.s 0)
  (.seq (.region false [
      ⟨.var 2, 4, none, .mov (.c (.bool false))⟩])
   (.ret))
  (.skip))
 (.seq (.region false [
    ⟨.var 8, 10, none, .mov (.c (.int .i64 (1)))⟩])
 (.seq (.region false [
    ⟨.push, 66, none, .mov (.v 5)⟩,
    ⟨.push, 67, none, .mov (.v 8)⟩,
    ⟨.push, 68, none, .call 17 [(.s 1), (.s 0)]⟩,
    ⟨.var 8, 10, none, .mov (.s 0)⟩])
 (.seq (.test false [
    ⟨.push, 69, none, .mov (.v 8)⟩,
    ⟨.push, 70, none, .bin false .lss (.s 0) (.c (.int .i64 (0)))⟩] (.s 0)
  (.seq (.region false [
      ⟨.var 2, 4, none, .mov (.c (.bool false))⟩])
   (.ret))
  (.skip))
 (.seq (.test false [
    ⟨.push, 71, none, .mov (.v 8)⟩,
    ⟨.push, 72, none, .mov (.v 7)⟩,
    ⟨.push, 73, none, .bin false .neq (.s 1) (.s 0)⟩] (.s 0)
  (.seq (.region false [
      ⟨.var 2, 4, none, .mov (.c (.bool false))⟩])
   (.ret))
  (.skip))
 (.seq (.region false [
    ⟨.var 2, 4, none, .mov (.c (.bool true))⟩])
 (.ret))))))))))))))))))), [.t 2]⟩
noncomputable def t_laws_FnExactValuesOf : List (Nat × Ctr) := [(13, c_spec_ValuesOf), (14, c_impl_ValuesOf), (15, c_laws_eqInt64S), (16, c_laws_markInt64S), (17, c_laws_heldInt64S)]
theorem lk_laws_FnExactValuesOf_13 : look t_laws_FnExactValuesOf 13 = some c_spec_ValuesOf := rfl
theorem lk_laws_FnExactValuesOf_14 : look t_laws_FnExactValuesOf 14 = some c_impl_ValuesOf := rfl
theorem lk_laws_FnExactValuesOf_15 : look t_laws_FnExactValuesOf 15 = some c_laws_eqInt64S := rfl
theorem lk_laws_FnExactValuesOf_16 : look t_laws_FnExactValuesOf 16 = some c_laws_markInt64S := rfl
theorem lk_laws_FnExactValuesOf_17 : look t_laws_FnExactValuesOf 17 = some c_laws_heldInt64S := rfl
noncomputable def c_laws_FnExactValuesOf : Ctr := mkF t_laws_FnExactValuesOf ir5 [.bor, .bor]
theorem s_laws_FnExactValuesOf : Sound Tryd.prog 5 c_laws_FnExactValuesOf := mkF_sound _ rfl (snd_cons s_spec_ValuesOf (snd_cons s_impl_ValuesOf (snd_cons s_laws_eqInt64S (snd_cons s_laws_markInt64S (snd_cons s_laws_heldInt64S snd_nil))))) (by kernel_rfl : chkFn Tryd.prog 5 ir5 ir5_v = true)
theorem M_laws_FnExactValuesOf : c_laws_FnExactValuesOf.modes = [.bor, .bor] := rfl
theorem Fl_laws_FnExactValuesOf : c_laws_FnExactValuesOf.flat = true := rfl
attribute [go_sem] M_laws_FnExactValuesOf Fl_laws_FnExactValuesOf
attribute [go_sem] lk_laws_FnExactValuesOf_13 lk_laws_FnExactValuesOf_14 lk_laws_FnExactValuesOf_15 lk_laws_FnExactValuesOf_16 lk_laws_FnExactValuesOf_17
theorem Fs_laws_FnExactValuesOf {aLog : List UInt8} {aWhat : List UInt8} {y_ : Bool} (h : laws_FnExactValuesOf aLog aWhat = some y_) : c_laws_FnExactValuesOf.F [.str aLog, .str aWhat] = ⟨true, .bool y_, [.any, .any]⟩ := by
  refine mkF_E rfl ?_
  dsimp only [laws_FnExactValuesOf] at h
  rcases it_some h with ⟨hk1, h⟩ | ⟨hk1, h⟩
  · try simp only [go_sem, n1, n2, n3, n4] at hk1
    all_goals
    obtain rfl := so_some h
    refine ⟨0, fun L hL => ?_⟩
    simp only [go_sem, ir5, hk1]
  · try simp only [go_sem, n1, n2, n3, n4] at hk1
    all_goals
    rcases it_some h with ⟨hk2, h⟩ | ⟨hk2, h⟩
    · try simp only [go_sem, n1, n2, n3, n4, hk1] at hk2
      all_goals
      obtain rfl := so_some h
      refine ⟨0, fun L hL => ?_⟩
      simp only [go_sem, ir5, hk1, hk2]
    · try simp only [go_sem, n1, n2, n3, n4, hk1] at hk2
      all_goals
      obtain ⟨y_3, hk3, h⟩ := bd_some h
      have fhk3 := Fs_spec_ValuesOf hk3
      try simp only [go_sem, hk1, hk2] at fhk3
      obtain ⟨y_4, hk4, h⟩ := bd_some h
      have fhk4 := Fs_impl_ValuesOf hk4
      try simp only [go_sem, hk1, hk2] at fhk4
      obtain ⟨y_5, hk5, h⟩ := bd_some h
      have fhk5 := Fs_laws_eqInt64S hk5
      try simp only [go_sem, hk1, hk2] at fhk5
      rcases it_some h with ⟨hk6, h⟩ | ⟨hk6, h⟩
      · try simp only [go_sem, n1, n2, n3, n4, hk1, hk2] at hk6
        all_goals
        obtain rfl := so_some h
        refine ⟨0, fun L hL => ?_⟩
        simp only [go_sem, ir5, hk1, hk2, fhk3, fhk4, fhk5, hk6]
      · try simp only [go_sem, n1, n2, n3, n4, hk1, hk2] at hk6
        all_goals
        obtain ⟨y_7, hk7, h⟩ := bd_some h
        have fhk7 := Fs_laws_markInt64S hk7
        try simp only [go_sem, hk1, hk2, hk6] at fhk7
        obtain ⟨y_8, hk8, h⟩ := bd_some h
        have fhk8 := Fs_laws_heldInt64S hk8
        try simp only [go_sem, hk1, hk2, hk6] at fhk8
        rcases it_some h with ⟨hk9, h⟩ | ⟨hk9, h⟩
        · try simp only [go_sem, n1, n2, n3, n4, hk1, hk2, hk6] at hk9
          all_goals
          obtain rfl := so_some h
          refine ⟨0, fun L hL => ?_⟩
          simp only [go_sem, ir5, hk1, hk2, fhk3, fhk4, fhk5, hk6, fhk7, fhk8, hk9]
        · try simp only [go_sem, n1, n2, n3, n4, hk1, hk2, hk6] at hk9
          all_goals
          rcases it_some h with ⟨hk10, h⟩ | ⟨hk10, h⟩
          · try simp only [go_sem, n1, n2, n3, n4, hk1, hk2, hk6, hk9] at hk10
            all_goals
            obtain rfl := so_some h
            refine ⟨0, fun L hL => ?_⟩
            simp only [go_sem, ir5, hk1, hk2, fhk3, fhk4, fhk5, hk6, fhk7, fhk8, hk9, hk10]
          · try simp only [go_sem, n1, n2, n3, n4, hk1, hk2, hk6, hk9] at hk10
            all_goals
            obtain rfl := so_some h
            refine ⟨0, fun L hL => ?_⟩
            simp only [go_sem, ir5, hk1, hk2, fhk3, fhk4, fhk5, hk6, fhk7, fhk8, hk9, hk10]


def ir18_v : List Nat := [0, 2, 3, 4, 5]
def ir18 : AFn := ⟨1, 5, .seq (.region false [
    ⟨.var 1, 2, none, .newnil 3⟩,
    ⟨.var 2, 3, none, .mov (.c (.int .i64 (0)))⟩])
 (.seq (.region false [
    ⟨.push, 7, none, .mov (.v 0)⟩,
    ⟨.push, 8, none, .call 23 [(.s 0)]⟩,
    ⟨.push, 6, none, .mov (.s 0)⟩,
    ⟨.push, 9, none, .ext (.s 0) 0⟩,
    ⟨.push, 10, none, .ext (.s 1) 1⟩,
    ⟨.var 3, 4, none, .mov (.s 1)⟩,
    ⟨.var 4, 5, none, .mov (.s 0)⟩])
 (.seq (.test false [
    ⟨.push, 11, none, .mov (.v 4)⟩,
    ⟨.push, 12, none, .bin false .neq (.s 0) (.c (.int .i64 (0)))⟩] (.s 0)
  (.seq (.region false [
      ⟨.push, 13, none, .mov (.v 4)⟩,
      ⟨.var 1, 2, none, .newnil 3⟩,
      ⟨.var 2, 3, none, .mov (.s 0)⟩])
   (.ret))
  (.skip))
 (.seq (.region false [
    ⟨.push, 14, none, .mov (.v 3)⟩,
    ⟨.push, 15, none, .nilck (.s 0)⟩,
    ⟨.push, 16, none, .fldAddr 3 (.s 0)⟩,
    ⟨.push, 17, none, .load false 1 (.s 0)⟩,
    ⟨.var 1, 2, none, .mov (.s 0)⟩,
    ⟨.var 2, 3, none, .mov (.c (.int .i64 (0)))⟩])
 (.ret)))), [.t 1, .t 2]⟩
noncomputable def t_spec_EntriesOf : List (Nat × Ctr) := [(23, c_spec_l27Code)]
theorem lk_spec_EntriesOf_23 : look t_spec_EntriesOf 23 = some c_spec_l27Code := rfl
noncomputable def c_spec_EntriesOf : Ctr := mkZ t_spec_EntriesOf ir18 [.bor]
theorem s_spec_EntriesOf : Sound Tryd.prog 18 c_spec_EntriesOf := mkZ_sound _ (snd_cons s_spec_l27Code snd_nil) (by kernel_rfl : chkFn Tryd.prog 18 ir18 ir18_v = true)
theorem M_spec_EntriesOf : c_spec_EntriesOf.modes = [.bor] := rfl
theorem Fl_spec_EntriesOf : c_spec_EntriesOf.flat = false := rfl
attribute [go_sem] M_spec_EntriesOf Fl_spec_EntriesOf
attribute [go_sem] lk_spec_EntriesOf_23
theorem Fs_spec_EntriesOf {log : List UInt8} {y_ : (List Entry) × Int} (h : spec_EntriesOf log = some y_) : c_spec_EntriesOf.F [.str log] = ⟨true, .tup [.sl 3 (List.map Entry_av y_.1), .int .i64 y_.2], [.any]⟩ := by
  refine mkZ_E ?_
  dsimp only [spec_EntriesOf] at h
  obtain ⟨y_1, hk1, h⟩ := bd_some h
  have fhk1 := Fs_spec_l27Code hk1
  try simp only [go_sem] at fhk1
  rcases it_some h with ⟨hk2, h⟩ | ⟨hk2, h⟩
  · try simp only [go_sem, n1, n2, n3, n4] at hk2
    all_goals
    obtain rfl := so_some h
    refine ⟨0, fun L hL => ?_⟩
    simp only [go_sem, ir18, fhk1, hk2]
  · try simp only [go_sem, n1, n2, n3, n4] at hk2
    all_goals
    obtain rfl := so_some h
    refine ⟨0, fun L hL => ?_⟩
    simp only [go_sem, ir18, fhk1, hk2]


def ir42_v : List Nat := [0, 1, 2, 3, 4]
def ir42 : AFn := ⟨2, 5, .seq (.region false [
    ⟨.var 2, 2, none, .box (.v 0)⟩,
    ⟨.var 3, 3, none, .box (.v 1)⟩,
    ⟨.var 4, 4, none, .mov (.c (.bool false))⟩])
 (.seq (.test false [
    ⟨.push, 5, none, .fldAddr 0 (.v 2)⟩,
    ⟨.push, 6, none, .load false 1 (.s 0)⟩,
    ⟨.push, 7, none, .fldAddr 0 (.v 3)⟩,
    ⟨.push, 8, none, .load false 1 (.s 0)⟩,
    ⟨.push, 9, none, .bin false .neq (.s 2) (.s 0)⟩] (.s 0)
  (.seq (.region false [
      ⟨.var 4, 4, none, .mov (.c (.bool false))⟩])
   (.ret))
  (.skip))
 (.seq (.test false [
    ⟨.push, 10, none, .fldAddr 1 (.v 2)⟩,
    ⟨.push, 11, none, .load false 1 (.s 0)⟩,
    ⟨.push, 12, none, .fldAddr 1 (.v 3)⟩,
    ⟨.push, 13, none, .load false 1 (.s 0)⟩,
    ⟨.push, 14, none, .bin false .neq (.s 2) (.s 0)⟩] (.s 0)
  (.seq (.region false [
      ⟨.var 4, 4, none, .mov (.c (.bool false))⟩])
   (.ret))
  (.skip))
 (.seq (.test false [
    ⟨.push, 15, none, .fldAddr 2 (.v 2)⟩,
    ⟨.push, 16, none, .load false 1 (.s 0)⟩,
    ⟨.push, 17, none, .fldAddr 2 (.v 3)⟩,
    ⟨.push, 18, none, .load false 1 (.s 0)⟩,
    ⟨.push, 19, none, .bin false .neq (.s 2) (.s 0)⟩] (.s 0)
  (.seq (.region false [
      ⟨.var 4, 4, none, .mov (.c (.bool false))⟩])
   (.ret))
  (.skip))
 (.seq (.region false [
    ⟨.var 4, 4, none, .mov (.c (.bool true))⟩])
 (.ret))))), [.t 4]⟩
noncomputable def t_laws_eqEntry : List (Nat × Ctr) := []
noncomputable def c_laws_eqEntry : Ctr := mkF t_laws_eqEntry ir42 [.bor, .bor]
theorem s_laws_eqEntry : Sound Tryd.prog 42 c_laws_eqEntry := mkF_sound _ rfl snd_nil (by kernel_rfl : chkFn Tryd.prog 42 ir42 ir42_v = true)
theorem M_laws_eqEntry : c_laws_eqEntry.modes = [.bor, .bor] := rfl
theorem Fl_laws_eqEntry : c_laws_eqEntry.flat = true := rfl
attribute [go_sem] M_laws_eqEntry Fl_laws_eqEntry
theorem Fs_laws_eqEntry {a : Entry} {b : Entry} {y_ : Bool} (h : laws_eqEntry a b = some y_) : c_laws_eqEntry.F [Entry_av a, Entry_av b] = ⟨true, .bool y_, [.any, .any]⟩ := by
  refine mkF_E rfl ?_
  dsimp only [laws_eqEntry] at h
  rcases it_some h with ⟨hk1, h⟩ | ⟨hk1, h⟩
  · try simp only [go_sem, n1, n2, n3, n4] at hk1
    all_goals
    obtain rfl := so_some h
    refine ⟨0, fun L hL => ?_⟩
    simp only [go_sem, ir42, hk1]
  · try simp only [go_sem, n1, n2, n3, n4] at hk1
    all_goals
    rcases it_some h with ⟨hk2, h⟩ | ⟨hk2, h⟩
    · try simp only [go_sem, n1, n2, n3, n4, hk1] at hk2
      all_goals
      obtain rfl := so_some h
      refine ⟨0, fun L hL => ?_⟩
      simp only [go_sem, ir42, hk1, hk2]
    · try simp only [go_sem, n1, n2, n3, n4, hk1] at hk2
      all_goals
      rcases it_some h with ⟨hk3, h⟩ | ⟨hk3, h⟩
      · try simp only [go_sem, n1, n2, n3, n4, hk1, hk2] at hk3
        all_goals
        obtain rfl := so_some h
        refine ⟨0, fun L hL => ?_⟩
        simp only [go_sem, ir42, hk1, hk2, hk3]
      · try simp only [go_sem, n1, n2, n3, n4, hk1, hk2] at hk3
        all_goals
        obtain rfl := so_some h
        refine ⟨0, fun L hL => ?_⟩
        simp only [go_sem, ir42, hk1, hk2, hk3]


def ir20_b0 : IR := .seq (.test false [
    ⟨.push, 11, none, .mov (.v 3)⟩,
    ⟨.push, 12, none, .mov (.v 0)⟩,
    ⟨.push, 13, none, .len false (.s 0)⟩,
    ⟨.push, 14, none, .bin false .lss (.s 2) (.s 0)⟩] (.s 0)
  (.skip)
  (.exit 0))
 (.seq (.block 1 (.anyo 10 [
     ⟨.slot 0, 17, none, .mov (.v 0)⟩,
     ⟨.slot 1, 18, none, .mov (.v 3)⟩,
     ⟨.slot 2, 19, none, .ixAddr 3 (.s 0) (.s 1)⟩,
     ⟨.slot 3, 20, none, .load true 3 (.s 2)⟩,
     ⟨.slot 4, 21, none, .mov (.v 1)⟩,
     ⟨.slot 5, 22, none, .mov (.v 3)⟩,
     ⟨.slot 6, 23, none, .ixAddr 3 (.s 4) (.s 5)⟩,
     ⟨.slot 7, 24, none, .load true 3 (.s 6)⟩,
     ⟨.slot 8, 25, none, .callp 42 [(.s 3), (.s 7)]⟩,
     ⟨.slot 9, 26, none, .un .not (.s 8)⟩] [] (.cond (.s 9)
   (.seq (.region false [
       ⟨.var 2, 4, none, .mov (.c (.bool false))⟩])
    (.ret))
   (.skip))))
 (.region false [
   ⟨.push, 15, none, .mov (.v 3)⟩,
   ⟨.push, 16, none, .bin false .add (.s 0) (.c (.int .i64 (1)))⟩,
   ⟨.var 3, 5, none, .mov (.s 0)⟩]))
def ir20_k0 : List Bool := [true, true, false, true]
def ir20_o0 : List Bool := [false, false, false, false]
def ir20_r0 : List Bool := [false, false, true, false]
def ir20_v : List Nat := [0, 1, 4, 5]
def ir20 : AFn := ⟨2, 4, .seq (.region false [
    ⟨.var 2, 4, none, .mov (.c (.bool false))⟩])
 (.seq (.test false [
    ⟨.push, 6, none, .mov (.v 0)⟩,
    ⟨.push, 7, none, .len false (.s 0)⟩,
    ⟨.push, 8, none, .mov (.v 1)⟩,
    ⟨.push, 9, none, .len false (.s 0)⟩,
    ⟨.push, 10, none, .bin false .neq (.s 2) (.s 0)⟩] (.s 0)
  (.seq (.region false [
      ⟨.var 2, 4, none, .mov (.c (.bool false))⟩])
   (.ret))
  (.skip))
 (.seq (.seq (.region false [
     ⟨.var 3, 5, none, .mov (.c (.int .i64 (0)))⟩])
  (.block 0 (.loop ir20_k0 ir20_o0 ir20_r0 ir20_b0)))
 (.seq (.region false [
    ⟨.var 2, 4, none, .mov (.c (.bool true))⟩])
 (.ret)))), [.t 2]⟩
noncomputable def t_laws_eqEntryS : List (Nat × Ctr) := [(42, c_laws_eqEntry)]
theorem lk_laws_eqEntryS_42 : look t_laws_eqEntryS 42 = some c_laws_eqEntry := rfl
noncomputable def c_laws_eqEntryS : Ctr := mkF t_laws_eqEntryS ir20 [.bor, .bor]
theorem s_laws_eqEntryS : Sound Tryd.prog 20 c_laws_eqEntryS := mkF_sound _ rfl (snd_cons s_laws_eqEntry snd_nil) (by kernel_rfl : chkFn Tryd.prog 20 ir20 ir20_v = true)
theorem M_laws_eqEntryS : c_laws_eqEntryS.modes = [.bor, .bor] := rfl
theorem Fl_laws_eqEntryS : c_laws_eqEntryS.flat = true := rfl
attribute [go_sem] M_laws_eqEntryS Fl_laws_eqEntryS
attribute [go_sem] lk_laws_eqEntryS_42
def E_laws_eqEntryS_l1 (a : List Entry) (b : List Entry) : Int → St
  | i => ⟨[.sl 3 (List.map Entry_av a), .sl 3 (List.map Entry_av b), .any, .int .i64 i], [], [], true⟩
def R_laws_eqEntryS_l1 (a : List Entry) (b : List Entry) : (Unit ⊕ Bool) → Res
  | .inl y => (.exit 0, ⟨[.any, .any, .any, .any], [], [], true⟩)
  | .inr y => (.ret, ⟨[.any, .any, .bool y, .any], [], [], true⟩)
theorem laws_eqEntryS_l1_ex {a : List Entry} {b : List Entry} {sgm_ : Int} {rho_ : Unit ⊕ Bool} (h : whileE (laws_eqEntryS_l1 a b) sgm_ = some rho_) : ∃ L0, ∀ L, L0 ≤ L → iter (exec (look t_laws_eqEntryS) L ir20_b0) ir20_k0 ir20_o0 ir20_r0 L (E_laws_eqEntryS_l1 a b sgm_) = R_laws_eqEntryS_l1 a b rho_ := by
  refine loop_ex (E := E_laws_eqEntryS_l1 a b) (R := R_laws_eqEntryS_l1 a b) (fun y => by first | (intro c; cases c) | (rcases y with y | y <;> (intro c; cases c)) | (rcases y with y | y | y <;> (intro c; cases c))) ?_ h
  clear h
  intro i o_ h
  dsimp only [laws_eqEntryS_l1] at h
  rcases it_some h with ⟨hk2, h⟩ | ⟨hk2, h⟩
  · try simp only [go_sem, n1, n2, n3, n4] at hk2
    all_goals
    obtain ⟨hk3, h⟩ := ck_some h
    have lhk3 := ix_lt hk3
    have xhk3 := getD_mapD Entry_av a lhk3
    try simp only [go_sem] at lhk3
    try simp only [go_sem] at xhk3
    try simp only [go_sem, n1, n2, n3, n4, hk2] at hk3
    all_goals
    obtain ⟨hk4, h⟩ := ck_some h
    have lhk4 := ix_lt hk4
    have xhk4 := getD_mapD Entry_av b lhk4
    try simp only [go_sem] at lhk4
    try simp only [go_sem] at xhk4
    try simp only [go_sem, n1, n2, n3, n4, hk2, hk3] at hk4
    all_goals
    obtain ⟨y_5, hk5, h⟩ := bd_some h
    have fhk5 := Fs_laws_eqEntry hk5
    try simp only [go_sem, hk2, hk3, hk4] at fhk5
    rcases it_some h with ⟨hk6, h⟩ | ⟨hk6, h⟩
    · try simp only [go_sem, n1, n2, n3, n4, hk2, hk3, hk4] at hk6
      all_goals
      obtain rfl := so_some h
      refine ⟨0, fun L hL => ?_⟩
      simp only [go_sem, ir20, E_laws_eqEntryS_l1, R_laws_eqEntryS_l1, ir20_b0, ir20_k0, ir20_o0, ir20_r0, hk2, hk3, lhk3, xhk3, hk4, lhk4, xhk4, fhk5, hk6]
    · try simp only [go_sem, n1, n2, n3, n4, hk2, hk3, hk4] at hk6
      all_goals
      obtain rfl := so_some h
      refine ⟨0, fun L hL => ?_⟩
      simp only [go_sem, ir20, E_laws_eqEntryS_l1, R_laws_eqEntryS_l1, ir20_b0, ir20_k0, ir20_o0, ir20_r0, hk2, hk3, lhk3, xhk3, hk4, lhk4, xhk4, fhk5, hk6]
  · try simp only [go_sem, n1, n2, n3, n4] at hk2
    all_goals
    obtain rfl := so_some h
    refine ⟨0, fun L hL => ?_⟩
    simp only [go_sem, ir20, E_laws_eqEntryS_l1, R_laws_eqEntryS_l1, ir20_b0, ir20_k0, ir20_o0, ir20_r0, hk2]

theorem Fs_laws_eqEntryS {a : List Entry} {b : List Entry} {y_ : Bool} (h : laws_eqEntryS a b = some y_) : c_laws_eqEntryS.F [.sl 3 (List.map Entry_av a), .sl 3 (List.map Entry_av b)] = ⟨true, .bool y_, [.any, .any]⟩ := by
  refine mkF_E rfl ?_
  dsimp only [laws_eqEntryS] at h
  rcases it_some h with ⟨hk1, h⟩ | ⟨hk1, h⟩
  · try simp only [go_sem, n1, n2, n3, n4] at hk1
    all_goals
    obtain rfl := so_some h
    refine ⟨0, fun L hL => ?_⟩
    simp only [go_sem, ir20, E_laws_eqEntryS_l1, R_laws_eqEntryS_l1, ir20_k0, ir20_o0, ir20_r0, hk1]
  · try simp only [go_sem, n1, n2, n3, n4] at hk1
    all_goals
    obtain ⟨y_7, hk7, h⟩ := bd_some h
    obtain ⟨Lhk7, ehk7⟩ := laws_eqEntryS_l1_ex hk7
    rcases y_7 with y_7a | y_7b
    · dsimp only at h
      obtain rfl := so_some h
      refine ⟨Lhk7, fun L hL => ?_⟩
      have ehk7 := ehk7 L (by omega)
      try simp only [go_sem, E_laws_eqEntryS_l1, R_laws_eqEntryS_l1, ir20_k0, ir20_o0, ir20_r0, hk1] at ehk7
      simp only [go_sem, ir20, E_laws_eqEntryS_l1, R_laws_eqEntryS_l1, ir20_k0, ir20_o0, ir20_r0, hk1, ehk7]
    · dsimp only at h
      obtain rfl := so_some h
      refine ⟨Lhk7, fun L hL => ?_⟩
      have ehk7 := ehk7 L (by omega)
      try simp only [go_sem, E_laws_eqEntryS_l1, R_laws_eqEntryS_l1, ir20_k0, ir20_o0, ir20_r0, hk1] at ehk7
      simp only [go_sem, ir20, E_laws_eqEntryS_l1, R_laws_eqEntryS_l1, ir20_k0, ir20_o0, ir20_r0, hk1, ehk7]


def ir43_b0 : IR := .seq (.test false [
    ⟨.push, 6, none, .mov (.v 0)⟩,
    ⟨.push, 7, none, .bin false .gtr (.s 0) (.c (.int .i64 (0)))⟩] (.s 0)
  (.skip)
  (.exit 0))
 (.block 1 (.seq (.region false [
     ⟨.push, 8, none, .mov (.v 0)⟩,
     ⟨.push, 9, none, .bin false .rem (.s 0) (.c (.int .i64 (10)))⟩,
     ⟨.push, 10, none, .bin false .add (.c (.int .i64 (48))) (.s 0)⟩,
     ⟨.push, 11, none, .conv .u8 (.s 0)⟩,
     ⟨.push, 12, none, .mkSl 1 (.int .u8 (0)) 1 [(0, (.s 0))]⟩,
     ⟨.push, 13, none, .b2s (.s 0)⟩,
     ⟨.push, 14, none, .mov (.v 2)⟩,
     ⟨.push, 15, none, .bin false .add (.s 1) (.s 0)⟩,
     ⟨.var 2, 3, none, .mov (.s 0)⟩])
  (.region false [
    ⟨.push, 16, none, .mov (.v 0)⟩,
    ⟨.push, 17, none, .bin false .quo (.s 0) (.c (.int .i64 (10)))⟩,
    ⟨.var 0, 0, none, .mov (.s 0)⟩])))
def ir43_k0 : List Bool := [true, false, true]
def ir43_o0 : List Bool := [false, false, true]
def ir43_r0 : List Bool := [false, true, false]
def ir43_v : List Nat := [0, 2, 3]
def ir43 : AFn := ⟨1, 3, .seq (.region false [
    ⟨.var 1, 2, none, .mov (.c (.str []))⟩])
 (.seq (.test false [
    ⟨.push, 4, none, .mov (.v 0)⟩,
    ⟨.push, 5, none, .bin false .leq (.s 0) (.c (.int .i64 (0)))⟩] (.s 0)
  (.seq (.region false [
      ⟨.var 1, 2, none, .mov (.c (.str [109, 48]))⟩])
   (.ret))
  (.skip))
 (.seq (.region false [
    ⟨.var 2, 3, none, .mov (.c (.str []))⟩])
 (.seq (.block 0 (.loop ir43_k0 ir43_o0 ir43_r0 ir43_b0))
 (.seq (.region false [
    ⟨.push, 18, none, .mov (.v 2)⟩,
    ⟨.push, 19, none, .bin false .add (.c (.str [109])) (.s 0)⟩,
    ⟨.var 1, 2, none, .mov (.s 0)⟩])
 (.ret))))), [.t 1]⟩
noncomputable def t_laws_markText : List (Nat × Ctr) := []
noncomputable def c_laws_markText : Ctr := mkF t_laws_markText ir43 [.bor]
theorem s_laws_markText : Sound Tryd.prog 43 c_laws_markText := mkF_sound _ rfl snd_nil (by kernel_rfl : chkFn Tryd.prog 43 ir43 ir43_v = true)
theorem M_laws_markText : c_laws_markText.modes = [.bor] := rfl
theorem Fl_laws_markText : c_laws_markText.flat = true := rfl
attribute [go_sem] M_laws_markText Fl_laws_markText
def E_laws_markText_l1  : (Int × (List UInt8)) → St
  | (k, out) => ⟨[.int .i64 k, .any, .str out], [], [], true⟩
def R_laws_markText_l1  (y : (List UInt8)) : Res := (.exit 0, ⟨[.any, .any, .str y], [], [], true⟩)
theorem laws_markText_l1_ex  {sgm_ : Int × (List UInt8)} {rho_ : (List UInt8)} (h : whileE (laws_markText_l1) sgm_ = some rho_) : ∃ L0, ∀ L, L0 ≤ L → iter (exec (look t_laws_markText) L ir43_b0) ir43_k0 ir43_o0 ir43_r0 L (E_laws_markText_l1 sgm_) = R_laws_markText_l1 rho_ := by
  refine loop_ex (E := E_laws_markText_l1) (R := R_laws_markText_l1) (fun y => by first | (intro c; cases c) | (rcases y with y | y <;> (intro c; cases c)) | (rcases y with y | y | y <;> (intro c; cases c))) ?_ h
  clear h
  rintro ⟨k, out⟩ o_ h
  dsimp only [laws_markText_l1] at h
  rcases it_some h with ⟨hk2, h⟩ | ⟨hk2, h⟩
  · try simp only [go_sem, n1, n2, n3, n4] at hk2
    all_goals
    obtain ⟨hk3, h⟩ := ck_some h
    try simp only [go_sem, n1, n2, n3, n4, hk2] at hk3
    all_goals
    obtain ⟨hk4, h⟩ := ck_some h
    try simp only [go_sem, n1, n2, n3, n4, hk2, hk3] at hk4
    all_goals
    obtain rfl := so_some h
    refine ⟨0, fun L hL => ?_⟩
    simp only [go_sem, ir43, E_laws_markText_l1, R_laws_markText_l1, ir43_b0, ir43_k0, ir43_o0, ir43_r0, hk2, hk3, hk4]
  · try simp only [go_sem, n1, n2, n3, n4] at hk2
    all_goals
    obtain rfl := so_some h
    refine ⟨0, fun L hL => ?_⟩
    simp only [go_sem, ir43, E_laws_markText_l1, R_laws_markText_l1, ir43_b0, ir43_k0, ir43_o0, ir43_r0, hk2]

theorem Fs_laws_markText {k : Int} {y_ : (List UInt8)} (h : laws_markText k = some y_) : c_laws_markText.F [.int .i64 k] = ⟨true, .str y_, [.any]⟩ := by
  refine mkF_E rfl ?_
  dsimp only [laws_markText] at h
  rcases it_some h with ⟨hk1, h⟩ | ⟨hk1, h⟩
  · try simp only [go_sem, n1, n2, n3, n4] at hk1
    all_goals
    obtain rfl := so_some h
    refine ⟨0, fun L hL => ?_⟩
    simp only [go_sem, ir43, E_laws_markText_l1, R_laws_markText_l1, ir43_k0, ir43_o0, ir43_r0, hk1]
  · try simp only [go_sem, n1, n2, n3, n4] at hk1
    all_goals
    obtain ⟨y_5, hk5, h⟩ := bd_some h
    obtain ⟨Lhk5, ehk5⟩ := laws_markText_l1_ex hk5
    obtain ⟨hk6, h⟩ := ck_some h
    try simp only [go_sem, n1, n2, n3, n4, hk1] at hk6
    all_goals
    obtain rfl := so_some h
    refine ⟨Lhk5, fun L hL => ?_⟩
    have ehk5 := ehk5 L (by omega)
    try simp only [go_sem, E_laws_markText_l1, R_laws_markText_l1, ir43_k0, ir43_o0, ir43_r0, hk1, hk6] at ehk5
    simp only [go_sem, ir43, E_laws_markText_l1, R_laws_markText_l1, ir43_k0, ir43_o0, ir43_r0, hk1, hk6, ehk5]


def ir21_b0 : IR := .seq (.test false [
    ⟨.push, 6, none, .mov (.v 3)⟩,
    ⟨.push, 7, none, .mov (.v 0)⟩,
    ⟨.push, 8, none, .len false (.s 0)⟩,
    ⟨.push, 9, none, .bin false .lss (.s 2) (.s 0)⟩] (.s 0)
  (.skip)
  (.exit 0))
 (.seq (.block 1 (.seq (.region false [
      ⟨.push, 12, none, .mov (.v 0)⟩,
      ⟨.push, 13, none, .mov (.v 3)⟩,
      ⟨.push, 14, none, .mov (.v 1)⟩,
      ⟨.push, 15, none, .ixAddr 3 (.s 2) (.s 1)⟩,
      ⟨.push, 16, none, .fldAddr 0 (.s 0)⟩,
      ⟨.no, 0, none, .store 1 (.s 0) (.s 2)⟩])
   (.seq (.region false [
      ⟨.push, 17, none, .mov (.v 1)⟩,
      ⟨.push, 18, none, .bin false .add (.s 0) (.c (.int .i64 (1)))⟩,
      ⟨.var 1, 1, none, .mov (.s 0)⟩])
   (.seq (.region false [
      ⟨.push, 19, none, .mov (.v 0)⟩,
      ⟨.push, 20, none, .mov (.v 3)⟩,
      ⟨.push, 21, none, .mov (.v 1)⟩,
      ⟨.push, 22, none, .call 43 [(.s 0)]⟩,
      ⟨.push, 23, none, .ixAddr 3 (.s 3) (.s 2)⟩,
      ⟨.push, 24, none, .fldAddr 1 (.s 0)⟩,
      ⟨.no, 0, none, .store 1 (.s 0) (.s 2)⟩])
   (.seq (.region false [
      ⟨.push, 25, none, .mov (.v 1)⟩,
      ⟨.push, 26, none, .bin false .add (.s 0) (.c (.int .i64 (1)))⟩,
      ⟨.var 1, 1, none, .mov (.s 0)⟩])
   (.seq (.region false [
      ⟨.push, 27, none, .mov (.v 0)⟩,
      ⟨.push, 28, none, .mov (.v 3)⟩,
      ⟨.push, 29, none, .mov (.v 1)⟩,
      ⟨.push, 30, none, .ixAddr 3 (.s 2) (.s 1)⟩,
      ⟨.push, 31, none, .fldAddr 2 (.s 0)⟩,
      ⟨.no, 0, none, .store 1 (.s 0) (.s 2)⟩])
   (.region false [
     ⟨.push, 32, none, .mov (.v 1)⟩,
     ⟨.push, 33, none, .bin false .add (.s 0) (.c (.int .i64 (1)))⟩,
     ⟨.var 1, 1, none, .mov (.s 0)⟩])))))))
 (.region false [
   ⟨.push, 10, none, .mov (.v 3)⟩,
   ⟨.push, 11, none, .bin false .add (.s 0) (.c (.int .i64 (1)))⟩,
   ⟨.var 3, 5, none, .mov (.s 0)⟩]))
def ir21_k0 : List Bool := [true, true, false, true]
def ir21_o0 : List Bool := [true, true, false, false]
def ir21_r0 : List Bool := [true, false, true, false]
def ir21_v : List Nat := [0, 1, 4, 5]
def ir21 : AFn := ⟨2, 4, .seq (.region false [
    ⟨.var 2, 4, none, .mov (.c (.int .i64 (0)))⟩])
 (.seq (.seq (.region false [
     ⟨.var 3, 5, none, .mov (.c (.int .i64 (0)))⟩])
  (.block 0 (.loop ir21_k0 ir21_o0 ir21_r0 ir21_b0)))
 (.seq (.region false [
    ⟨.push, 34, none, .mov (.v 1)⟩,
    ⟨.var 2, 4, none, .mov (.s 0)⟩])
 (.ret))), [.t 2]⟩
noncomputable def t_laws_markEntryS : List (Nat × Ctr) := [(43, c_laws_markText)]
theorem lk_laws_markEntryS_43 : look t_laws_markEntryS 43 = some c_laws_markText := rfl
noncomputable def c_laws_markEntryS : Ctr := mkN t_laws_markEntryS ir21 [.io, .bor]
theorem s_laws_markEntryS : Sound Tryd.prog 21 c_laws_markEntryS := mkN_sound _ (snd_cons s_laws_markText snd_nil) (by kernel_rfl : chkFn Tryd.prog 21 ir21 ir21_v = true)
theorem M_laws_markEntryS : c_laws_markEntryS.modes = [.io, .bor] := rfl
theorem Fl_laws_markEntryS : c_laws_markEntryS.flat = false := rfl
attribute [go_sem] M_laws_markEntryS Fl_laws_markEntryS
attribute [go_sem] lk_laws_markEntryS_43
def E_laws_markEntryS_l1  : ((List Entry) × Int × Int) → St
  | (a, k, i) => ⟨[.own 31, .int .i64 k, .any, .int .i64 i], [], [(31, ⟨3, List.map Entry_av a⟩)], true⟩
def R_laws_markEntryS_l1  (y : (List Entry) × Int) : Res := (.exit 0, ⟨[.own 31, .int .i64 y.2, .any, .any], [], [(31, ⟨3, List.map Entry_av y.1⟩)], true⟩)
theorem laws_markEntryS_l1_ex  {sgm_ : (List Entry) × Int × Int} {rho_ : (List Entry) × Int} (h : whileE (laws_markEntryS_l1) sgm_ = some rho_) : ∃ L0, ∀ L, L0 ≤ L → iter (exec (look t_laws_markEntryS) L ir21_b0) ir21_k0 ir21_o0 ir21_r0 L (E_laws_markEntryS_l1 sgm_) = R_laws_markEntryS_l1 rho_ := by
  refine loop_ex (E := E_laws_markEntryS_l1) (R := R_laws_markEntryS_l1) (fun y => by first | (intro c; cases c) | (rcases y with y | y <;> (intro c; cases c)) | (rcases y with y | y | y <;> (intro c; cases c))) ?_ h
  clear h
  rintro ⟨a, k, i⟩ o_ h
  dsimp only [laws_markEntryS_l1] at h
  rcases it_some h with ⟨hk1, h⟩ | ⟨hk1, h⟩
  · try simp only [go_sem, n1, n2, n3, n4] at hk1
    all_goals
    obtain ⟨hk2, h⟩ := ck_some h
    have lhk2 := ix_lt hk2
    have xhk2 := getD_mapD Entry_av a lhk2
    try simp only [go_sem] at lhk2
    try simp only [go_sem] at xhk2
    try simp only [go_sem, n1, n2, n3, n4, hk1] at hk2
    all_goals
    obtain ⟨y_3, hk3, h⟩ := bd_some h
    have fhk3 := Fs_laws_markText hk3
    try simp only [go_sem, hk1, hk2] at fhk3
    obtain rfl := so_some h
    refine ⟨0, fun L hL => ?_⟩
    simp only [go_sem, ir21, E_laws_markEntryS_l1, R_laws_markEntryS_l1, ir21_b0, ir21_k0, ir21_o0, ir21_r0, hk1, hk2, lhk2, xhk2, fhk3]
  · try simp only [go_sem, n1, n2, n3, n4] at hk1
    all_goals
    obtain rfl := so_some h
    refine ⟨0, fun L hL => ?_⟩
    simp only [go_sem, ir21, E_laws_markEntryS_l1, R_laws_markEntryS_l1, ir21_b0, ir21_k0, ir21_o0, ir21_r0, hk1]

theorem Fs_laws_markEntryS {a : List Entry} {k : Int} {y_ : Int × (List Entry)} (h : laws_markEntryS a k = some y_) : c_laws_markEntryS.F [.fresh 3 (List.map Entry_av a), .int .i64 k] = ⟨true, .int .i64 y_.1, [.fresh 3 (List.map Entry_av y_.2), .any]⟩ := by
  refine mkN_E ?_
  dsimp only [laws_markEntryS] at h
  obtain ⟨y_4, hk4, h⟩ := bd_some h
  obtain ⟨Lhk4, ehk4⟩ := laws_markEntryS_l1_ex hk4
  obtain ⟨hk5, h⟩ := ck_some h
  try simp only [go_sem, n1, n2, n3, n4] at hk5
  all_goals
  obtain rfl := so_some h
  refine ⟨Lhk4, fun L hL => ?_⟩
  have ehk4 := ehk4 L (by omega)
  try simp only [go_sem, E_laws_markEntryS_l1, R_laws_markEntryS_l1, ir21_k0, ir21_o0, ir21_r0, hk5] at ehk4
  simp only [go_sem, ir21, E_laws_markEntryS_l1, R_laws_markEntryS_l1, ir21_k0, ir21_o0, ir21_r0, hk5, ehk4]


def ir22_b0 : IR := .seq (.test false [
    ⟨.push, 6, none, .mov (.v 3)⟩,
    ⟨.push, 7, none, .mov (.v 0)⟩,
    ⟨.push, 8, none, .len false (.s 0)⟩,
    ⟨.push, 9, none, .bin false .lss (.s 2) (.s 0)⟩] (.s 0)
  (.skip)
  (.exit 0))
 (.seq (.block 1 (.seq (.test false [
      ⟨.push, 12, none, .mov (.v 0)⟩,
      ⟨.push, 13, none, .mov (.v 3)⟩,
      ⟨.push, 14, none, .ixAddr 3 (.s 1) (.s 0)⟩,
      ⟨.push, 15, none, .fldAddr 0 (.s 0)⟩,
      ⟨.push, 16, none, .load false 1 (.s 0)⟩,
      ⟨.push, 17, none, .mov (.v 1)⟩,
      ⟨.push, 18, none, .bin false .neq (.s 1) (.s 0)⟩] (.s 0)
    (.seq (.region false [
        ⟨.var 2, 4, none, .mov (.c (.int .i64 (-1)))⟩])
     (.ret))
    (.skip))
   (.seq (.region false [
      ⟨.push, 19, none, .mov (.v 1)⟩,
      ⟨.push, 20, none, .bin false .add (.s 0) (.c (.int .i64 (1)))⟩,
      ⟨.var 1, 1, none, .mov (.s 0)⟩])
   (.seq (.anyo 8 [
      ⟨.slot 0, 21, none, .mov (.v 0)⟩,
      ⟨.slot 1, 22, none, .mov (.v 3)⟩,
      ⟨.slot 2, 23, none, .ixAddr 3 (.s 0) (.s 1)⟩,
      ⟨.slot 3, 24, none, .fldAddr 1 (.s 2)⟩,
      ⟨.slot 4, 25, none, .load false 1 (.s 3)⟩,
      ⟨.slot 5, 26, none, .mov (.v 1)⟩,
      ⟨.slot 6, 27, none, .callp 43 [(.s 5)]⟩,
      ⟨.slot 7, 28, none, .bin false .neq (.s 4) (.s 6)⟩] [] (.cond (.s 7)
    (.seq (.region false [
        ⟨.var 2, 4, none, .mov (.c (.int .i64 (-1)))⟩])
     (.ret))
    (.skip)))
   (.seq (.region false [
      ⟨.push, 29, none, .mov (.v 1)⟩,
      ⟨.push, 30, none, .bin false .add (.s 0) (.c (.int .i64 (1)))⟩,
      ⟨.var 1, 1, none, .mov (.s 0)⟩])
   (.seq (.test false [
      ⟨.push, 31, none, .mov (.v 0)⟩,
      ⟨.push, 32, none, .mov (.v 3)⟩,
      ⟨.push, 33, none, .ixAddr 3 (.s 1) (.s 0)⟩,
      ⟨.push, 34, none, .fldAddr 2 (.s 0)⟩,
      ⟨.push, 35, none, .load false 1 (.s 0)⟩,
      ⟨.push, 36, none, .mov (.v 1)⟩,
      ⟨.push, 37, none, .bin false .neq (.s 1) (.s 0)⟩] (.s 0)
    (.seq (.region false [
        ⟨.var 2, 4, none, .mov (.c (.int .i64 (-1)))⟩])
     (.ret))
    (.skip))
   (.region false [
     ⟨.push, 38, none, .mov (.v 1)⟩,
     ⟨.push, 39, none, .bin false .add (.s 0) (.c (.int .i64 (1)))⟩,
     ⟨.var 1, 1, none, .mov (.s 0)⟩])))))))
 (.region false [
   ⟨.push, 10, none, .mov (.v 3)⟩,
   ⟨.push, 11, none, .bin false .add (.s 0) (.c (.int .i64 (1)))⟩,
   ⟨.var 3, 5, none, .mov (.s 0)⟩]))
def ir22_k0 : List Bool := [true, true, false, true]
def ir22_o0 : List Bool := [false, true, false, false]
def ir22_r0 : List Bool := [false, false, true, false]
def ir22_v : List Nat := [0, 1, 4, 5]
def ir22 : AFn := ⟨2, 4, .seq (.region false [
    ⟨.var 2, 4, none, .mov (.c (.int .i64 (0)))⟩])
 (.seq (.seq (.region false [
     ⟨.var 3, 5, none, .mov (.c (.int .i64 (0)))⟩])
  (.block 0 (.loop ir22_k0 ir22_o0 ir22_r0 ir22_b0)))
 (.seq (.region false [
    ⟨.push, 40, none, .mov (.v 1)⟩,
    ⟨.var 2, 4, none, .mov (.s 0)⟩])
 (.ret))), [.t 2]⟩
noncomputable def t_laws_heldEntryS : List (Nat × Ctr) := [(43, c_laws_markText)]
theorem lk_laws_heldEntryS_43 : look t_laws_heldEntryS 43 = some c_laws_markText := rfl
noncomputable def c_laws_heldEntryS : Ctr := mkF t_laws_heldEntryS ir22 [.bor, .bor]
theorem s_laws_heldEntryS : Sound Tryd.prog 22 c_laws_heldEntryS := mkF_sound _ rfl (snd_cons s_laws_markText snd_nil) (by kernel_rfl : chkFn Tryd.prog 22 ir22 ir22_v = true)
theorem M_laws_heldEntryS : c_laws_heldEntryS.modes = [.bor, .bor] := rfl
theorem Fl_laws_heldEntryS : c_laws_heldEntryS.flat = true := rfl
attribute [go_sem] M_laws_heldEntryS Fl_laws_heldEntryS
attribute [go_sem] lk_laws_heldEntryS_43
def E_laws_heldEntryS_l1 (a : List Entry) : (Int × Int) → St
  | (k, i) => ⟨[.sl 3 (List.map Entry_av a), .int .i64 k, .any, .int .i64 i], [], [], true⟩
def R_laws_heldEntryS_l1 (a : List Entry) : (Int ⊕ Int) → Res
  | .inl y => (.exit 0, ⟨[.any, .int .i64 y, .any, .any], [], [], true⟩)
  | .inr y => (.ret, ⟨[.any, .any, .int .i64 y, .any], [], [], true⟩)
theorem laws_heldEntryS_l1_ex {a : List Entry} {sgm_ : Int × Int} {rho_ : Int ⊕ Int} (h : whileE (laws_heldEntryS_l1 a) sgm_ = some rho_) : ∃ L0, ∀ L, L0 ≤ L → iter (exec (look t_laws_heldEntryS) L ir22_b0) ir22_k0 ir22_o0 ir22_r0 L (E_laws_heldEntryS_l1 a sgm_) = R_laws_heldEntryS_l1 a rho_ := by
  refine loop_ex (E := E_laws_heldEntryS_l1 a) (R := R_laws_heldEntryS_l1 a) (fun y => by first | (intro c; cases c) | (rcases y with y | y <;> (intro c; cases c)) | (rcases y with y | y | y <;> (intro c; cases c))) ?_ h
  clear h
  rintro ⟨k, i⟩ o_ h
  dsimp only [laws_heldEntryS_l1] at h
  rcases it_some h with ⟨hk1, h⟩ | ⟨hk1, h⟩
  · try simp only [go_sem, n1, n2, n3, n4] at hk1
    all_goals
    obtain ⟨hk2, h⟩ := ck_some h
    have lhk2 := ix_lt hk2
    have xhk2 := getD_mapD Entry_av a lhk2
    try simp only [go_sem] at lhk2
    try simp only [go_sem] at xhk2
    try simp only [go_sem, n1, n2, n3, n4, hk1] at hk2
    all_goals
    rcases it_some h with ⟨hk3, h⟩ | ⟨hk3, h⟩
    · try simp only [go_sem, n1, n2, n3, n4, hk1, hk2] at hk3
      all_goals
      obtain rfl := so_some h
      refine ⟨0, fun L hL => ?_⟩
      simp only [go_sem, ir22, E_laws_heldEntryS_l1, R_laws_heldEntryS_l1, ir22_b0, ir22_k0, ir22_o0, ir22_r0, hk1, hk2, lhk2, xhk2, hk3]
    · try simp only [go_sem, n1, n2, n3, n4, hk1, hk2] at hk3
      all_goals
      obtain ⟨y_4, hk4, h⟩ := bd_some h
      have fhk4 := Fs_laws_markText hk4
      try simp only [go_sem, hk1, hk2, hk3] at fhk4
      rcases it_some h with ⟨hk5, h⟩ | ⟨hk5, h⟩
      · try simp only [go_sem, n1, n2, n3, n4, hk1, hk2, hk3] at hk5
        all_goals
        obtain rfl := so_some h
        refine ⟨0, fun L hL => ?_⟩
        simp only [go_sem, ir22, E_laws_heldEntryS_l1, R_laws_heldEntryS_l1, ir22_b0, ir22_k0, ir22_o0, ir22_r0, hk1, hk2, lhk2, xhk2, hk3, fhk4, hk5]
      · try simp only [go_sem, n1, n2, n3, n4, hk1, hk2, hk3] at hk5
        all_goals
        rcases it_some h with ⟨hk6, h⟩ | ⟨hk6, h⟩
        · try simp only [go_sem, n1, n2, n3, n4, hk1, hk2, hk3, hk5] at hk6
          all_goals
          obtain rfl := so_some h
          refine ⟨0, fun L hL => ?_⟩
          simp only [go_sem, ir22, E_laws_heldEntryS_l1, R_laws_heldEntryS_l1, ir22_b0, ir22_k0, ir22_o0, ir22_r0, hk1, hk2, lhk2, xhk2, hk3, fhk4, hk5, hk6]
        · try simp only [go_sem, n1, n2, n3, n4, hk1, hk2, hk3, hk5] at hk6
          all_goals
          obtain rfl := so_some h
          refine ⟨0, fun L hL => ?_⟩
          simp only [go_sem, ir22, E_laws_heldEntryS_l1, R_laws_heldEntryS_l1, ir22_b0, ir22_k0, ir22_o0, ir22_r0, hk1, hk2, lhk2, xhk2, hk3, fhk4, hk5, hk6]
  · try simp only [go_sem, n1, n2, n3, n4] at hk1
    all_goals
    obtain rfl := so_some h
    refine ⟨0, fun L hL => ?_⟩
    simp only [go_sem, ir22, E_laws_heldEntryS_l1, R_laws_heldEntryS_l1, ir22_b0, ir22_k0, ir22_o0, ir22_r0, hk1]

theorem Fs_laws_heldEntryS {a : List Entry} {k : Int} {y_ : Int} (h : laws_heldEntryS a k = some y_) : c_laws_heldEntryS.F [.sl 3 (List.map Entry_av a), .int .i64 k] = ⟨true, .int .i64 y_, [.any, .any]⟩ := by
  refine mkF_E rfl ?_
  dsimp only [laws_heldEntryS] at h
  obtain ⟨y_7, hk7, h⟩ := bd_some h
  obtain ⟨Lhk7, ehk7⟩ := laws_heldEntryS_l1_ex hk7
  rcases y_7 with y_7a | y_7b
  · dsimp only at h
    obtain rfl := so_some h
    refine ⟨Lhk7, fun L hL => ?_⟩
    have ehk7 := ehk7 L (by omega)
    try simp only [go_sem, E_laws_heldEntryS_l1, R_laws_heldEntryS_l1, ir22_k0, ir22_o0, ir22_r0] at ehk7
    simp only [go_sem, ir22, E_laws_heldEntryS_l1, R_laws_heldEntryS_l1, ir22_k0, ir22_o0, ir22_r0, ehk7]
  · dsimp only at h
    obtain rfl := so_some h
    refine ⟨Lhk7, fun L hL => ?_⟩
    have ehk7 := ehk7 L (by omega)
    try simp only [go_sem, E_laws_heldEntryS_l1, R_laws_heldEntryS_l1, ir22_k0, ir22_o0, ir22_r0] at ehk7
    simp only [go_sem, ir22, E_laws_heldEntryS_l1, R_laws_heldEntryS_l1, ir22_k0, ir22_o0, ir22_r0, ehk7]


def ir6_v : List Nat := [0, 2, 3, 4, 5, 6, 7, 8, 9, 10]
def ir6 : AFn := ⟨1, 10, .seq (.region false [
    ⟨.var 1, 2, none, .mov (.c (.bool false))⟩])
 (.seq (.test false [
    ⟨.push, 11, none, .mov (.v 0)⟩,
    ⟨.push, 12, none, .len true (.s 0)⟩,
    ⟨.push, 13, none, .bin false .gtr (.s 0) (.c (.int .i64 (1048576)))⟩] (.s 0)
  (.seq (.region false [
      ⟨.var 1, 2, none, .mov (.c (.bool true))⟩])
   (.ret))
  (.skip))
 (.seq (.region false [
    ⟨.push, 15, none, .mov (.v 0)⟩,
    ⟨.push, 16, none, .call 18 [(.s 0)]⟩,
    ⟨.push, 14, none, .mov (.s 0)⟩,
    ⟨.push, 17, none, .ext (.s 0) 0⟩,
    ⟨.push, 18, none, .ext (.s 1) 1⟩,
    ⟨.var 2, 3, none, .mov (.s 1)⟩,
    ⟨.var 3, 4, none, .mov (.s 0)⟩])
 (.seq (.region false [
    ⟨.push, 20, none, .mov (.v 0)⟩,
    ⟨.push, 21, none, .call 19 [(.s 0)]⟩,
    ⟨.push, 19, none, .mov (.s 0)⟩,
    ⟨.push, 22, none, .ext (.s 0) 0⟩,
    ⟨.push, 23, none, .ext (.s 1) 1⟩,
    ⟨.var 4, 5, none, .mov (.s 1)⟩,
    ⟨.var 5, 6, none, .mov (.s 0)⟩])
 (.seq (.test false [
    ⟨.push, 24, none, .mov (.v 4)⟩,
    ⟨.push, 25, none, .mov (.v 2)⟩,
    ⟨.push, 26, none, .call 20 [(.s 1), (.s 0)]⟩,
    ⟨.push, 27, none, .un .not (.s 0)⟩,
    ⟨.push, 28, none, .mov (.s 0)⟩,
    ⟨.push, 29, (some ((.s 0), false)), .mov (.v 5)⟩,
    ⟨.push, 30, (some ((.s 1), false)), .mov (.v 3)⟩,
    ⟨.push, 31, (some ((.s 2), false)), .bin false .neq (.s 1) (.s 0)⟩,
    ⟨.push, 32, none, .pick (.s 3) (.c (.bool true)) (.s 0)⟩] (.s 0)
  (.seq (.region false [
      ⟨.var 1, 2, none, .mov (.c (.bool false))⟩])
   (.ret))
  (.skip))
 (.seq (.region false [
    ⟨.var 6, 7, none, .mov (.c (.int .i64 (1)))⟩])
 (.seq (.region false [
    ⟨.push, 33, none, .mov (.v 4)⟩,
    ⟨.push, 34, none, .mov (.v 6)⟩,
    ⟨.push, 35, none, .call 21 [(.s 1), (.s 0)]⟩,
    ⟨.var 6, 7, none, .mov (.s 0)⟩])
 (.seq (.region false [
    ⟨.var 7, 8, none, .mov (.c (.int .i64 (1)))⟩])
 (.seq (.region false [
    ⟨.push, 36, none, .mov (.v 4)⟩,
    ⟨.push, 37, none, .mov (.v 7)⟩,
    ⟨.push, 38, none, .call 22 [(.s 1), (.s 0)]⟩,
    ⟨.var 7, 8, none, .mov (.s 0)⟩])
 (.seq (.test false [
    ⟨.push, 39, none, .mov (.v 7)⟩,
    ⟨.push, 40, none, .bin false .lss (.s 0) (.c (.int .i64 (0)))⟩] (.s 0)
  (.seq (.region false [
      ⟨.var 1, 2, none, .mov (.c (.bool false))⟩])
   (.ret))
  (.skip))
 (.seq (.test false [
    ⟨.push, 41, none, .mov (.v 7)⟩,
    ⟨.push, 42, none, .mov (.v 6)⟩,
    ⟨.push, 43, none, .bin false .neq (.s 1) (.s 0)⟩] (.s 0)
  (.seq (.region false [
      ⟨.var 1, 2, none, .mov (.c (.bool false))⟩])
   (.ret))
  (.skip))
 (.seq (.region false [
    ⟨.push, 45, none, .mov (.v 0)⟩,
    ⟨.push, 46, none, .call 19 [(.s 0)]⟩,
    ⟨.push, 44, none, .mov (.s 0)⟩,
    ⟨.push, 47, none, .ext (.s 0) 0⟩,
    ⟨.push, 48, none, .ext (.s 1) 1⟩,
    ⟨.var 8, 9, none, .mov (.s 1)⟩,
    ⟨.var 9, 10, none, .mov (.s 0)⟩])
 (.seq (.test false [
    ⟨.push, 49, none, .mov (.v 8)⟩,
    ⟨.push, 50, none, .mov (.v 2)⟩,
    ⟨.push, 51, none, .call 20 [(.s 1), (.s 0)]⟩,
    ⟨.push, 52, none, .un .not (.s 0)⟩,
    ⟨.push, 53, none, .mov (.s 0)⟩,
    ⟨.push, 54, (some ((.s 0), false)), .mov (.v 9)⟩,
    ⟨.push, 55, (some ((.s 1), false)), .mov (.v 3)⟩,
    ⟨.push, 56, (some ((.s 2), false)), .bin false .neq (.s 1) (.s 0)⟩,
    ⟨.push, 57, none, .pick (.s 3) (.c (.bool true)) (.s 0)⟩] (.s 0)
  (.seq (.region false [
      ⟨.var 1, 2, none, .mov (.c (.bool false))⟩])
   (.ret))
  (.skip))
 (.seq (.region false [
    ⟨.var 7, 8, none, .mov (.c (.int .i64 (1)))⟩])
 (.seq (.region false [
    ⟨.push, 58, none, .mov (.v 4)⟩,
    ⟨.push, 59, none, .mov (.v 7)⟩,
    ⟨.push, 60, none, .call 22 [(.s 1), (.s 0)]⟩,
    ⟨.var 7, 8, none, .mov (.s 0)⟩])
 (.seq (.test false [
    ⟨.push, 61, none, .mov (.v 7)⟩,
    ⟨.push, 62, none, .bin false .lss (.s 0) (.c (.int .i64 (0)))⟩] (.s 0)
  (.seq (.region false [
      ⟨.var 1, 2, none, .mov (.c (.bool false))⟩])
   (.ret))
  (.skip))
 (.seq (.test false [
    ⟨.push, 63, none, .mov (.v 7)⟩,
    ⟨.push, 64, none, .mov (.v 6)⟩,
    ⟨.push, 65, none, .bin false .neq (.s 1) (.s 0)⟩] (.s 0)
  (.seq (.region false [
      ⟨.var 1, 2, none, .mov (.c (.bool false))⟩])
   (.ret))
  (.skip))
 (.seq (.region false [
    ⟨.var 1, 2, none, .mov (.c (.bool true))⟩])
 (.ret)))))))))))))))))), [.t 1]⟩
noncomputable def t_laws_FnExactEntriesOf : List (Nat × Ctr) := [(18, c_spec_EntriesOf), (19, c_impl_EntriesOf), (20, c_laws_eqEntryS), (21, c_laws_markEntryS), (22, c_laws_heldEntryS)]
theorem lk_laws_FnExactEntriesOf_18 : look t_laws_FnExactEntriesOf 18 = some c_spec_EntriesOf := rfl
theorem lk_laws_FnExactEntriesOf_19 : look t_laws_FnExactEntriesOf 19 = some c_impl_EntriesOf := rfl
theorem lk_laws_FnExactEntriesOf_20 : look t_laws_FnExactEntriesOf 20 = some c_laws_eqEntryS := rfl
theorem lk_laws_FnExactEntriesOf_21 : look t_laws_FnExactEntriesOf 21 = some c_laws_markEntryS := rfl
theorem lk_laws_FnExactEntriesOf_22 : look t_laws_FnExactEntriesOf 22 = some c_laws_heldEntryS := rfl
noncomputable def c_laws_FnExactEntriesOf : Ctr := mkF t_laws_FnExactEntriesOf ir6 [.bor]
theorem s_laws_FnExactEntriesOf : Sound Tryd.prog 6 c_laws_FnExactEntriesOf := mkF_sound _ rfl (snd_cons s_spec_EntriesOf (snd_cons s_impl_EntriesOf (snd_cons s_laws_eqEntryS (snd_cons s_laws_markEntryS (snd_cons s_laws_heldEntryS snd_nil))))) (by kernel_rfl : chkFn Tryd.prog 6 ir6 ir6_v = true)
theorem M_laws_FnExactEntriesOf : c_laws_FnExactEntriesOf.modes = [.bor] := rfl
theorem Fl_laws_FnExactEntriesOf : c_laws_FnExactEntriesOf.flat = true := rfl
attribute [go_sem] M_laws_FnExactEntriesOf Fl_laws_FnExactEntriesOf
attribute [go_sem] lk_laws_FnExactEntriesOf_18 lk_laws_FnExactEntriesOf_19 lk_laws_FnExactEntriesOf_20 lk_laws_FnExactEntriesOf_21 lk_laws_FnExactEntriesOf_22
theorem Fs_laws_FnExactEntriesOf {aLog : List UInt8} {y_ : Bool} (h : laws_FnExactEntriesOf aLog = some y_) : c_laws_FnExactEntriesOf.F [.str aLog] = ⟨true, .bool y_, [.any]⟩ := by
  refine mkF_E rfl ?_
  dsimp only [laws_FnExactEntriesOf] at h
  rcases it_some h with ⟨hk1, h⟩ | ⟨hk1, h⟩
  · try simp only [go_sem, n1, n2, n3, n4] at hk1
    all_goals
    obtain rfl := so_some h
    refine ⟨0, fun L hL => ?_⟩
    simp only [go_sem, ir6, hk1]
  · try simp only [go_sem, n1, n2, n3, n4] at hk1
    all_goals
    obtain ⟨y_2, hk2, h⟩ := bd_some h
    have fhk2 := Fs_spec_EntriesOf hk2
    try simp only [go_sem, hk1] at fhk2
    obtain ⟨y_3, hk3, h⟩ := bd_some h
    have fhk3 := Fs_impl_EntriesOf hk3
    try simp only [go_sem, hk1] at fhk3
    obtain ⟨y_4, hk4, h⟩ := bd_some h
    have fhk4 := Fs_laws_eqEntryS hk4
    try simp only [go_sem, hk1] at fhk4
    rcases it_some h with ⟨hk5, h⟩ | ⟨hk5, h⟩
    · try simp only [go_sem, n1, n2, n3, n4, hk1] at hk5
      all_goals
      obtain rfl := so_some h
      refine ⟨0, fun L hL => ?_⟩
      simp only [go_sem, ir6, hk1, fhk2, fhk3, fhk4, hk5]
    · try simp only [go_sem, n1, n2, n3, n4, hk1] at hk5
      all_goals
      obtain ⟨y_6, hk6, h⟩ := bd_some h
      have fhk6 := Fs_laws_markEntryS hk6
      try simp only [go_sem, hk1, hk5] at fhk6
      obtain ⟨y_7, hk7, h⟩ := bd_some h
      have fhk7 := Fs_laws_heldEntryS hk7
      try simp only [go_sem, hk1, hk5] at fhk7
      rcases it_some h with ⟨hk8, h⟩ | ⟨hk8, h⟩
      · try simp only [go_sem, n1, n2, n3, n4, hk1, hk5] at hk8
        all_goals
        obtain rfl := so_some h
        refine ⟨0, fun L hL => ?_⟩
        simp only [go_sem, ir6, hk1, fhk2, fhk3, fhk4, hk5, fhk6, fhk7, hk8]
      · try simp only [go_sem, n1, n2, n3, n4, hk1, hk5] at hk8
        all_goals
        rcases it_some h with ⟨hk9, h⟩ | ⟨hk9, h⟩
        · try simp only [go_sem, n1, n2, n3, n4, hk1, hk5, hk8] at hk9
          all_goals
          obtain rfl := so_some h
          refine ⟨0, fun L hL => ?_⟩
          simp only [go_sem, ir6, hk1, fhk2, fhk3, fhk4, hk5, fhk6, fhk7, hk8, hk9]
        · try simp only [go_sem, n1, n2, n3, n4, hk1, hk5, hk8] at hk9
          all_goals
          obtain rfl := so_some h
          refine ⟨0, fun L hL => ?_⟩
          simp only [go_sem, ir6, hk1, fhk2, fhk3, fhk4, hk5, fhk6, fhk7, hk8, hk9]


end Go.Proofs.YtgbopjgnggdhkabDoor
