/- Codes and contracts of the functions that B9 reaches, and that their typed forms say what they do. No condition. -/
import Derived.Test.YtgbopjgnggdhkaaB9Ka
import Derived.Test.YtgbopjgnggdhkaaRows
import Derived.WalkKit
namespace Go.Proofs.Ytgbopjgnggdhkaa
open Go Go.RowKit
set_option linter.unusedVariables false
set_option linter.unusedSimpArgs false
set_option maxRecDepth 10000

def ir69_v : List Nat := [0, 2]
def ir69 : AFn := ⟨1, 2, .seq (.region false [
    ⟨.var 1, 2, none, .mov (.c (.bool false))⟩])
 (.seq (.region false [
    ⟨.push, 3, none, .mov (.v 0)⟩,
    ⟨.push, 4, none, .call 80 [(.s 0), (.c (.int .i64 (-2000))), (.c (.int .i64 (20000)))]⟩,
    ⟨.var 1, 2, none, .mov (.s 0)⟩])
 (.ret)), [.t 1]⟩
noncomputable def t_impl_ValidMag : List (Nat × Ctr) := [(80, c_impl_in)]
theorem lk_impl_ValidMag_80 : look t_impl_ValidMag 80 = some c_impl_in := rfl
noncomputable def c_impl_ValidMag : Ctr := mkF t_impl_ValidMag ir69 [.bor]
theorem s_impl_ValidMag : Sound Try.prog 69 c_impl_ValidMag := mkF_sound _ rfl (snd_cons s_impl_in snd_nil) (by kernel_rfl : chkFn Try.prog 69 ir69 ir69_v = true)
theorem M_impl_ValidMag : c_impl_ValidMag.modes = [.bor] := rfl
theorem Fl_impl_ValidMag : c_impl_ValidMag.flat = true := rfl
attribute [go_sem] M_impl_ValidMag Fl_impl_ValidMag
attribute [go_sem] lk_impl_ValidMag_80
theorem Fs_impl_ValidMag {m : Int} {y_ : Bool} (h : impl_ValidMag m = some y_) : c_impl_ValidMag.F [.int .i64 m] = ⟨true, .bool y_, [.any]⟩ := by
  refine mkF_E rfl ?_
  dsimp only [impl_ValidMag] at h
  obtain ⟨y_1, hk1, h⟩ := bd_some h
  have fhk1 := Fs_impl_in hk1
  try simp only [go_sem] at fhk1
  obtain rfl := so_some h
  refine ⟨0, fun L hL => ?_⟩
  simp only [go_sem, ir69, fhk1]


def ir51_v : List Nat := [0, 1, 2]
def ir51 : AFn := ⟨1, 3, .seq (.region false [
    ⟨.var 1, 1, none, .box (.v 0)⟩,
    ⟨.var 2, 2, none, .mov (.c (.bool false))⟩])
 (.seq (.region false [
    ⟨.push, 3, none, .fldAddr 0 (.v 1)⟩,
    ⟨.push, 4, none, .load false 1 (.s 0)⟩,
    ⟨.push, 5, none, .call 67 [(.s 0)]⟩,
    ⟨.push, 6, none, .mov (.s 0)⟩,
    ⟨.push, 7, (some ((.s 0), true)), .fldAddr 1 (.v 1)⟩,
    ⟨.push, 8, (some ((.s 1), true)), .load false 1 (.s 0)⟩,
    ⟨.push, 9, (some ((.s 2), true)), .call 68 [(.s 0)]⟩,
    ⟨.push, 10, none, .pick (.s 3) (.s 0) (.c (.bool false))⟩,
    ⟨.push, 11, none, .mov (.s 0)⟩,
    ⟨.push, 12, (some ((.s 0), true)), .fldAddr 2 (.v 1)⟩,
    ⟨.push, 13, (some ((.s 1), true)), .load false 1 (.s 0)⟩,
    ⟨.push, 14, (some ((.s 2), true)), .call 68 [(.s 0)]⟩,
    ⟨.push, 15, none, .pick (.s 3) (.s 0) (.c (.bool false))⟩,
    ⟨.push, 16, none, .mov (.s 0)⟩,
    ⟨.push, 17, (some ((.s 0), true)), .fldAddr 3 (.v 1)⟩,
    ⟨.push, 18, (some ((.s 1), true)), .load false 1 (.s 0)⟩,
    ⟨.push, 19, (some ((.s 2), true)), .call 69 [(.s 0)]⟩,
    ⟨.push, 20, none, .pick (.s 3) (.s 0) (.c (.bool false))⟩,
    ⟨.var 2, 2, none, .mov (.s 0)⟩])
 (.ret)), [.t 2]⟩
noncomputable def t_impl_isEstimate : List (Nat × Ctr) := [(67, c_impl_ValidTime), (68, c_impl_IsName), (69, c_impl_ValidMag)]
theorem lk_impl_isEstimate_67 : look t_impl_isEstimate 67 = some c_impl_ValidTime := rfl
theorem lk_impl_isEstimate_68 : look t_impl_isEstimate 68 = some c_impl_IsName := rfl
theorem lk_impl_isEstimate_69 : look t_impl_isEstimate 69 = some c_impl_ValidMag := rfl
noncomputable def c_impl_isEstimate : Ctr := mkF t_impl_isEstimate ir51 [.bor]
theorem s_impl_isEstimate : Sound Try.prog 51 c_impl_isEstimate := mkF_sound _ rfl (snd_cons s_impl_ValidTime (snd_cons s_impl_IsName (snd_cons s_impl_ValidMag snd_nil))) (by kernel_rfl : chkFn Try.prog 51 ir51 ir51_v = true)
theorem M_impl_isEstimate : c_impl_isEstimate.modes = [.bor] := rfl
theorem Fl_impl_isEstimate : c_impl_isEstimate.flat = true := rfl
attribute [go_sem] M_impl_isEstimate Fl_impl_isEstimate
attribute [go_sem] lk_impl_isEstimate_67 lk_impl_isEstimate_68 lk_impl_isEstimate_69
theorem Fs_impl_isEstimate {e_ : Estimate} {y_ : Bool} (h : impl_isEstimate e_ = some y_) : c_impl_isEstimate.F [Estimate_av e_] = ⟨true, .bool y_, [.any]⟩ := by
  refine mkF_E rfl ?_
  dsimp only [impl_isEstimate] at h
  obtain ⟨y_1, hk1, h⟩ := bd_some h
  have fhk1 := Fs_impl_ValidTime hk1
  try simp only [go_sem] at fhk1
  obtain ⟨hk2, h⟩ := ck_some h
  rcases or_split hk2 with ⟨ghk2, hk2⟩ | ghk2
  · try simp only [go_sem, n1, n2, n3, n4] at ghk2
    all_goals
    obtain ⟨y_2, hhk2⟩ := Option.isSome_iff_exists.1 hk2
    have fhk2 := Fs_impl_IsName hhk2
    try simp only [go_sem, ghk2] at fhk2
    obtain ⟨hk3, h⟩ := ck_some h
    rcases or_split hk3 with ⟨ghk3, hk3⟩ | ghk3
    · try simp only [go_sem, n1, n2, n3, n4, ghk2, hhk2] at ghk3
      all_goals
      obtain ⟨y_3, hhk3⟩ := Option.isSome_iff_exists.1 hk3
      have fhk3 := Fs_impl_IsName hhk3
      try simp only [go_sem, ghk2, hhk2, ghk3] at fhk3
      obtain ⟨hk4, h⟩ := ck_some h
      rcases or_split hk4 with ⟨ghk4, hk4⟩ | ghk4
      · try simp only [go_sem, n1, n2, n3, n4, ghk2, hhk2, ghk3, hhk3] at ghk4
        all_goals
        obtain ⟨y_4, hhk4⟩ := Option.isSome_iff_exists.1 hk4
        have fhk4 := Fs_impl_ValidMag hhk4
        try simp only [go_sem, ghk2, hhk2, ghk3, hhk3, ghk4] at fhk4
        obtain rfl := so_some h
        refine ⟨0, fun L hL => ?_⟩
        simp only [go_sem, ir51, fhk1, ghk2, hhk2, fhk2, ghk3, hhk3, fhk3, ghk4, hhk4, fhk4]
      · rcases and_f ghk4 with ghk4a | ⟨ghk4a, ghk4b⟩
        · rcases and_f ghk4a with ghk4aa | ⟨ghk4aa, ghk4ab⟩
          · try simp only [go_sem, n1, n2, n3, n4, ghk2, hhk2, ghk3, hhk3] at ghk4aa
            all_goals
            obtain rfl := so_some h
            refine ⟨0, fun L hL => ?_⟩
            simp only [go_sem, ir51, fhk1, ghk2, hhk2, fhk2, ghk3, hhk3, fhk3, ghk4aa]
          · try simp only [go_sem, n1, n2, n3, n4, ghk2, hhk2, ghk3, hhk3] at ghk4aa
            all_goals
            try simp only [go_sem, n1, n2, n3, n4, ghk2, hhk2, ghk3, hhk3, ghk4aa] at ghk4ab
            all_goals
            obtain rfl := so_some h
            refine ⟨0, fun L hL => ?_⟩
            simp only [go_sem, ir51, fhk1, ghk2, hhk2, fhk2, ghk3, hhk3, fhk3, ghk4aa, ghk4ab]
        · obtain ⟨ghk4aa, ghk4ab⟩ := and_t ghk4a
          try simp only [go_sem, n1, n2, n3, n4, ghk2, hhk2, ghk3, hhk3] at ghk4aa
          all_goals
          try simp only [go_sem, n1, n2, n3, n4, ghk2, hhk2, ghk3, hhk3, ghk4aa] at ghk4ab
          all_goals
          try simp only [go_sem, n1, n2, n3, n4, ghk2, hhk2, ghk3, hhk3, ghk4aa, ghk4ab] at ghk4b
          all_goals
          obtain rfl := so_some h
          refine ⟨0, fun L hL => ?_⟩
          simp only [go_sem, ir51, fhk1, ghk2, hhk2, fhk2, ghk3, hhk3, fhk3, ghk4aa, ghk4ab, ghk4b]
    · rcases and_f ghk3 with ghk3a | ⟨ghk3a, ghk3b⟩
      · try simp only [go_sem, n1, n2, n3, n4, ghk2, hhk2] at ghk3a
        all_goals
        obtain ⟨hk4, h⟩ := ck_some h
        rcases or_split hk4 with ⟨ghk4, hk4⟩ | ghk4
        · try simp only [go_sem, n1, n2, n3, n4, ghk2, hhk2, ghk3a] at ghk4
          all_goals
          obtain ⟨y_4, hhk4⟩ := Option.isSome_iff_exists.1 hk4
          have fhk4 := Fs_impl_ValidMag hhk4
          try simp only [go_sem, ghk2, hhk2, ghk3a, ghk4] at fhk4
          obtain rfl := so_some h
          refine ⟨0, fun L hL => ?_⟩
          simp only [go_sem, ir51, fhk1, ghk2, hhk2, fhk2, ghk3a, ghk4, hhk4, fhk4]
        · rcases and_f ghk4 with ghk4a | ⟨ghk4a, ghk4b⟩
          · rcases and_f ghk4a with ghk4aa | ⟨ghk4aa, ghk4ab⟩
            · try simp only [go_sem, n1, n2, n3, n4, ghk2, hhk2, ghk3a] at ghk4aa
              all_goals
              obtain rfl := so_some h
              refine ⟨0, fun L hL => ?_⟩
              simp only [go_sem, ir51, fhk1, ghk2, hhk2, fhk2, ghk3a, ghk4aa]
            · try simp only [go_sem, n1, n2, n3, n4, ghk2, hhk2, ghk3a] at ghk4aa
              all_goals
              try simp only [go_sem, n1, n2, n3, n4, ghk2, hhk2, ghk3a, ghk4aa] at ghk4ab
              all_goals
              obtain rfl := so_some h
              refine ⟨0, fun L hL => ?_⟩
              simp only [go_sem, ir51, fhk1, ghk2, hhk2, fhk2, ghk3a, ghk4aa, ghk4ab]
          · obtain ⟨ghk4aa, ghk4ab⟩ := and_t ghk4a
            try simp only [go_sem, n1, n2, n3, n4, ghk2, hhk2, ghk3a] at ghk4aa
            all_goals
            try simp only [go_sem, n1, n2, n3, n4, ghk2, hhk2, ghk3a, ghk4aa] at ghk4ab
            all_goals
            try simp only [go_sem, n1, n2, n3, n4, ghk2, hhk2, ghk3a, ghk4aa, ghk4ab] at ghk4b
            all_goals
            obtain rfl := so_some h
            refine ⟨0, fun L hL => ?_⟩
            simp only [go_sem, ir51, fhk1, ghk2, hhk2, fhk2, ghk3a, ghk4aa, ghk4ab, ghk4b]
      · try simp only [go_sem, n1, n2, n3, n4, ghk2, hhk2] at ghk3a
        all_goals
        try simp only [go_sem, n1, n2, n3, n4, ghk2, hhk2, ghk3a] at ghk3b
        all_goals
        obtain ⟨hk4, h⟩ := ck_some h
        rcases or_split hk4 with ⟨ghk4, hk4⟩ | ghk4
        · try simp only [go_sem, n1, n2, n3, n4, ghk2, hhk2, ghk3a, ghk3b] at ghk4
          all_goals
          obtain ⟨y_4, hhk4⟩ := Option.isSome_iff_exists.1 hk4
          have fhk4 := Fs_impl_ValidMag hhk4
          try simp only [go_sem, ghk2, hhk2, ghk3a, ghk3b, ghk4] at fhk4
          obtain rfl := so_some h
          refine ⟨0, fun L hL => ?_⟩
          simp only [go_sem, ir51, fhk1, ghk2, hhk2, fhk2, ghk3a, ghk3b, ghk4, hhk4, fhk4]
        · rcases and_f ghk4 with ghk4a | ⟨ghk4a, ghk4b⟩
          · rcases and_f ghk4a with ghk4aa | ⟨ghk4aa, ghk4ab⟩
            · try simp only [go_sem, n1, n2, n3, n4, ghk2, hhk2, ghk3a, ghk3b] at ghk4aa
              all_goals
              obtain rfl := so_some h
              refine ⟨0, fun L hL => ?_⟩
              simp only [go_sem, ir51, fhk1, ghk2, hhk2, fhk2, ghk3a, ghk3b, ghk4aa]
            · try simp only [go_sem, n1, n2, n3, n4, ghk2, hhk2, ghk3a, ghk3b] at ghk4aa
              all_goals
              try simp only [go_sem, n1, n2, n3, n4, ghk2, hhk2, ghk3a, ghk3b, ghk4aa] at ghk4ab
              all_goals
              obtain rfl := so_some h
              refine ⟨0, fun L hL => ?_⟩
              simp only [go_sem, ir51, fhk1, ghk2, hhk2, fhk2, ghk3a, ghk3b, ghk4aa, ghk4ab]
          · obtain ⟨ghk4aa, ghk4ab⟩ := and_t ghk4a
            try simp only [go_sem, n1, n2, n3, n4, ghk2, hhk2, ghk3a, ghk3b] at ghk4aa
            all_goals
            try simp only [go_sem, n1, n2, n3, n4, ghk2, hhk2, ghk3a, ghk3b, ghk4aa] at ghk4ab
            all_goals
            try simp only [go_sem, n1, n2, n3, n4, ghk2, hhk2, ghk3a, ghk3b, ghk4aa, ghk4ab] at ghk4b
            all_goals
            obtain rfl := so_some h
            refine ⟨0, fun L hL => ?_⟩
            simp only [go_sem, ir51, fhk1, ghk2, hhk2, fhk2, ghk3a, ghk3b, ghk4aa, ghk4ab, ghk4b]
  · try simp only [go_sem, n1, n2, n3, n4] at ghk2
    all_goals
    obtain ⟨hk3, h⟩ := ck_some h
    rcases or_split hk3 with ⟨ghk3, hk3⟩ | ghk3
    · try simp only [go_sem, n1, n2, n3, n4, ghk2] at ghk3
      all_goals
      obtain ⟨y_3, hhk3⟩ := Option.isSome_iff_exists.1 hk3
      have fhk3 := Fs_impl_IsName hhk3
      try simp only [go_sem, ghk2, ghk3] at fhk3
      obtain ⟨hk4, h⟩ := ck_some h
      rcases or_split hk4 with ⟨ghk4, hk4⟩ | ghk4
      · try simp only [go_sem, n1, n2, n3, n4, ghk2, ghk3, hhk3] at ghk4
        all_goals
        obtain ⟨y_4, hhk4⟩ := Option.isSome_iff_exists.1 hk4
        have fhk4 := Fs_impl_ValidMag hhk4
        try simp only [go_sem, ghk2, ghk3, hhk3, ghk4] at fhk4
        obtain rfl := so_some h
        refine ⟨0, fun L hL => ?_⟩
        simp only [go_sem, ir51, fhk1, ghk2, ghk3, hhk3, fhk3, ghk4, hhk4, fhk4]
      · rcases and_f ghk4 with ghk4a | ⟨ghk4a, ghk4b⟩
        · rcases and_f ghk4a with ghk4aa | ⟨ghk4aa, ghk4ab⟩
          · try simp only [go_sem, n1, n2, n3, n4, ghk2, ghk3, hhk3] at ghk4aa
            all_goals
            obtain rfl := so_some h
            refine ⟨0, fun L hL => ?_⟩
            simp only [go_sem, ir51, fhk1, ghk2, ghk3, hhk3, fhk3, ghk4aa]
          · try simp only [go_sem, n1, n2, n3, n4, ghk2, ghk3, hhk3] at ghk4aa
            all_goals
            try simp only [go_sem, n1, n2, n3, n4, ghk2, ghk3, hhk3, ghk4aa] at ghk4ab
            all_goals
            obtain rfl := so_some h
            refine ⟨0, fun L hL => ?_⟩
            simp only [go_sem, ir51, fhk1, ghk2, ghk3, hhk3, fhk3, ghk4aa, ghk4ab]
        · obtain ⟨ghk4aa, ghk4ab⟩ := and_t ghk4a
          try simp only [go_sem, n1, n2, n3, n4, ghk2, ghk3, hhk3] at ghk4aa
          all_goals
          try simp only [go_sem, n1, n2, n3, n4, ghk2, ghk3, hhk3, ghk4aa] at ghk4ab
          all_goals
          try simp only [go_sem, n1, n2, n3, n4, ghk2, ghk3, hhk3, ghk4aa, ghk4ab] at ghk4b
          all_goals
          obtain rfl := so_some h
          refine ⟨0, fun L hL => ?_⟩
          simp only [go_sem, ir51, fhk1, ghk2, ghk3, hhk3, fhk3, ghk4aa, ghk4ab, ghk4b]
    · rcases and_f ghk3 with ghk3a | ⟨ghk3a, ghk3b⟩
      · try simp only [go_sem, n1, n2, n3, n4, ghk2] at ghk3a
        all_goals
        obtain ⟨hk4, h⟩ := ck_some h
        rcases or_split hk4 with ⟨ghk4, hk4⟩ | ghk4
        · try simp only [go_sem, n1, n2, n3, n4, ghk2, ghk3a] at ghk4
          all_goals
          obtain ⟨y_4, hhk4⟩ := Option.isSome_iff_exists.1 hk4
          have fhk4 := Fs_impl_ValidMag hhk4
          try simp only [go_sem, ghk2, ghk3a, ghk4] at fhk4
          obtain rfl := so_some h
          refine ⟨0, fun L hL => ?_⟩
          simp only [go_sem, ir51, fhk1, ghk2, ghk3a, ghk4, hhk4, fhk4]
        · rcases and_f ghk4 with ghk4a | ⟨ghk4a, ghk4b⟩
          · rcases and_f ghk4a with ghk4aa | ⟨ghk4aa, ghk4ab⟩
            · try simp only [go_sem, n1, n2, n3, n4, ghk2, ghk3a] at ghk4aa
              all_goals
              obtain rfl := so_some h
              refine ⟨0, fun L hL => ?_⟩
              simp only [go_sem, ir51, fhk1, ghk2, ghk3a, ghk4aa]
            · try simp only [go_sem, n1, n2, n3, n4, ghk2, ghk3a] at ghk4aa
              all_goals
              try simp only [go_sem, n1, n2, n3, n4, ghk2, ghk3a, ghk4aa] at ghk4ab
              all_goals
              obtain rfl := so_some h
              refine ⟨0, fun L hL => ?_⟩
              simp only [go_sem, ir51, fhk1, ghk2, ghk3a, ghk4aa, ghk4ab]
          · obtain ⟨ghk4aa, ghk4ab⟩ := and_t ghk4a
            try simp only [go_sem, n1, n2, n3, n4, ghk2, ghk3a] at ghk4aa
            all_goals
            try simp only [go_sem, n1, n2, n3, n4, ghk2, ghk3a, ghk4aa] at ghk4ab
            all_goals
            try simp only [go_sem, n1, n2, n3, n4, ghk2, ghk3a, ghk4aa, ghk4ab] at ghk4b
            all_goals
            obtain rfl := so_some h
            refine ⟨0, fun L hL => ?_⟩
            simp only [go_sem, ir51, fhk1, ghk2, ghk3a, ghk4aa, ghk4ab, ghk4b]
      · try simp only [go_sem, n1, n2, n3, n4, ghk2] at ghk3a
        all_goals
        try simp only [go_sem, n1, n2, n3, n4, ghk2, ghk3a] at ghk3b
        all_goals
        obtain ⟨hk4, h⟩ := ck_some h
        rcases or_split hk4 with ⟨ghk4, hk4⟩ | ghk4
        · try simp only [go_sem, n1, n2, n3, n4, ghk2, ghk3a, ghk3b] at ghk4
          all_goals
          obtain ⟨y_4, hhk4⟩ := Option.isSome_iff_exists.1 hk4
          have fhk4 := Fs_impl_ValidMag hhk4
          try simp only [go_sem, ghk2, ghk3a, ghk3b, ghk4] at fhk4
          obtain rfl := so_some h
          refine ⟨0, fun L hL => ?_⟩
          simp only [go_sem, ir51, fhk1, ghk2, ghk3a, ghk3b, ghk4, hhk4, fhk4]
        · rcases and_f ghk4 with ghk4a | ⟨ghk4a, ghk4b⟩
          · rcases and_f ghk4a with ghk4aa | ⟨ghk4aa, ghk4ab⟩
            · try simp only [go_sem, n1, n2, n3, n4, ghk2, ghk3a, ghk3b] at ghk4aa
              all_goals
              obtain rfl := so_some h
              refine ⟨0, fun L hL => ?_⟩
              simp only [go_sem, ir51, fhk1, ghk2, ghk3a, ghk3b, ghk4aa]
            · try simp only [go_sem, n1, n2, n3, n4, ghk2, ghk3a, ghk3b] at ghk4aa
              all_goals
              try simp only [go_sem, n1, n2, n3, n4, ghk2, ghk3a, ghk3b, ghk4aa] at ghk4ab
              all_goals
              obtain rfl := so_some h
              refine ⟨0, fun L hL => ?_⟩
              simp only [go_sem, ir51, fhk1, ghk2, ghk3a, ghk3b, ghk4aa, ghk4ab]
          · obtain ⟨ghk4aa, ghk4ab⟩ := and_t ghk4a
            try simp only [go_sem, n1, n2, n3, n4, ghk2, ghk3a, ghk3b] at ghk4aa
            all_goals
            try simp only [go_sem, n1, n2, n3, n4, ghk2, ghk3a, ghk3b, ghk4aa] at ghk4ab
            all_goals
            try simp only [go_sem, n1, n2, n3, n4, ghk2, ghk3a, ghk3b, ghk4aa, ghk4ab] at ghk4b
            all_goals
            obtain rfl := so_some h
            refine ⟨0, fun L hL => ?_⟩
            simp only [go_sem, ir51, fhk1, ghk2, ghk3a, ghk3b, ghk4aa, ghk4ab, ghk4b]


def ir81_v : List Nat := [0, 2]
def ir81 : AFn := ⟨1, 2, .seq (.region false [
    ⟨.var 1, 2, none, .mov (.c (.bool false))⟩])
 (.seq (.region false [
    ⟨.push, 3, none, .mov (.v 0)⟩,
    ⟨.push, 4, none, .mov (.v 0)⟩,
    ⟨.push, 5, none, .bin false .neq (.s 1) (.s 0)⟩,
    ⟨.var 1, 2, none, .mov (.s 0)⟩])
 (.ret)), [.t 1]⟩
noncomputable def t_cmp_isNaN_int64 : List (Nat × Ctr) := []
noncomputable def c_cmp_isNaN_int64 : Ctr := mkF t_cmp_isNaN_int64 ir81 [.bor]
theorem s_cmp_isNaN_int64 : Sound Try.prog 81 c_cmp_isNaN_int64 := mkF_sound _ rfl snd_nil (by kernel_rfl : chkFn Try.prog 81 ir81 ir81_v = true)
theorem M_cmp_isNaN_int64 : c_cmp_isNaN_int64.modes = [.bor] := rfl
theorem Fl_cmp_isNaN_int64 : c_cmp_isNaN_int64.flat = true := rfl
attribute [go_sem] M_cmp_isNaN_int64 Fl_cmp_isNaN_int64
theorem Fs_cmp_isNaN_int64 {x : Int} {y_ : Bool} (h : cmp_isNaN_int64 x = some y_) : c_cmp_isNaN_int64.F [.int .i64 x] = ⟨true, .bool y_, [.any]⟩ := by
  refine mkF_E rfl ?_
  dsimp only [cmp_isNaN_int64] at h
  obtain rfl := so_some h
  refine ⟨0, fun L hL => ?_⟩
  simp only [go_sem, ir81]


def ir71_v : List Nat := [0, 1, 4, 5, 6]
def ir71 : AFn := ⟨2, 5, .seq (.region false [
    ⟨.var 2, 4, none, .mov (.c (.int .i64 (0)))⟩])
 (.seq (.region false [
    ⟨.push, 7, none, .mov (.v 0)⟩,
    ⟨.push, 8, none, .call 81 [(.s 0)]⟩,
    ⟨.var 3, 5, none, .mov (.s 0)⟩])
 (.seq (.region false [
    ⟨.push, 9, none, .mov (.v 1)⟩,
    ⟨.push, 10, none, .call 81 [(.s 0)]⟩,
    ⟨.var 4, 6, none, .mov (.s 0)⟩])
 (.seq (.test false [
    ⟨.push, 11, none, .mov (.v 3)⟩] (.s 0)
  (.seq (.test false [
      ⟨.push, 12, none, .mov (.v 4)⟩] (.s 0)
    (.seq (.region false [
        ⟨.var 2, 4, none, .mov (.c (.int .i64 (0)))⟩])
     (.ret))
    (.skip))
   (.seq (.region false [
      ⟨.var 2, 4, none, .mov (.c (.int .i64 (-1)))⟩])
   (.ret)))
  (.skip))
 (.seq (.test false [
    ⟨.push, 13, none, .mov (.v 4)⟩] (.s 0)
  (.seq (.region false [
      ⟨.var 2, 4, none, .mov (.c (.int .i64 (1)))⟩])
   (.ret))
  (.skip))
 (.seq (.test false [
    ⟨.push, 14, none, .mov (.v 0)⟩,
    ⟨.push, 15, none, .mov (.v 1)⟩,
    ⟨.push, 16, none, .bin false .lss (.s 1) (.s 0)⟩] (.s 0)
  (.seq (.region false [
      ⟨.var 2, 4, none, .mov (.c (.int .i64 (-1)))⟩])
   (.ret))
  (.skip))
 (.seq (.test false [
    ⟨.push, 17, none, .mov (.v 0)⟩,
    ⟨.push, 18, none, .mov (.v 1)⟩,
    ⟨.push, 19, none, .bin false .gtr (.s 1) (.s 0)⟩] (.s 0)
  (.seq (.region false [
      ⟨.var 2, 4, none, .mov (.c (.int .i64 (1)))⟩])
   (.ret))
  (.skip))
 (.seq (.region false [
    ⟨.var 2, 4, none, .mov (.c (.int .i64 (0)))⟩])
 (.ret)))))))), [.t 2]⟩
noncomputable def t_cmp_Compare_int64 : List (Nat × Ctr) := [(81, c_cmp_isNaN_int64)]
theorem lk_cmp_Compare_int64_81 : look t_cmp_Compare_int64 81 = some c_cmp_isNaN_int64 := rfl
noncomputable def c_cmp_Compare_int64 : Ctr := mkF t_cmp_Compare_int64 ir71 [.bor, .bor]
theorem s_cmp_Compare_int64 : Sound Try.prog 71 c_cmp_Compare_int64 := mkF_sound _ rfl (snd_cons s_cmp_isNaN_int64 snd_nil) (by kernel_rfl : chkFn Try.prog 71 ir71 ir71_v = true)
theorem M_cmp_Compare_int64 : c_cmp_Compare_int64.modes = [.bor, .bor] := rfl
theorem Fl_cmp_Compare_int64 : c_cmp_Compare_int64.flat = true := rfl
attribute [go_sem] M_cmp_Compare_int64 Fl_cmp_Compare_int64
attribute [go_sem] lk_cmp_Compare_int64_81
theorem Fs_cmp_Compare_int64 {x : Int} {y : Int} {y_ : Int} (h : cmp_Compare_int64 x y = some y_) : c_cmp_Compare_int64.F [.int .i64 x, .int .i64 y] = ⟨true, .int .i64 y_, [.any, .any]⟩ := by
  refine mkF_E rfl ?_
  dsimp only [cmp_Compare_int64] at h
  obtain ⟨y_1, hk1, h⟩ := bd_some h
  have fhk1 := Fs_cmp_isNaN_int64 hk1
  try simp only [go_sem] at fhk1
  obtain ⟨y_2, hk2, h⟩ := bd_some h
  have fhk2 := Fs_cmp_isNaN_int64 hk2
  try simp only [go_sem] at fhk2
  rcases it_some h with ⟨hk3, h⟩ | ⟨hk3, h⟩
  · try simp only [go_sem, n1, n2, n3, n4] at hk3
    all_goals
    rcases it_some h with ⟨hk4, h⟩ | ⟨hk4, h⟩
    · try simp only [go_sem, n1, n2, n3, n4, hk3] at hk4
      all_goals
      obtain rfl := so_some h
      refine ⟨0, fun L hL => ?_⟩
      simp only [go_sem, ir71, fhk1, fhk2, hk3, hk4]
    · try simp only [go_sem, n1, n2, n3, n4, hk3] at hk4
      all_goals
      obtain rfl := so_some h
      refine ⟨0, fun L hL => ?_⟩
      simp only [go_sem, ir71, fhk1, fhk2, hk3, hk4]
  · try simp only [go_sem, n1, n2, n3, n4] at hk3
    all_goals
    rcases it_some h with ⟨hk5, h⟩ | ⟨hk5, h⟩
    · try simp only [go_sem, n1, n2, n3, n4, hk3] at hk5
      all_goals
      obtain rfl := so_some h
      refine ⟨0, fun L hL => ?_⟩
      simp only [go_sem, ir71, fhk1, fhk2, hk3, hk5]
    · try simp only [go_sem, n1, n2, n3, n4, hk3] at hk5
      all_goals
      rcases it_some h with ⟨hk6, h⟩ | ⟨hk6, h⟩
      · try simp only [go_sem, n1, n2, n3, n4, hk3, hk5] at hk6
        all_goals
        obtain rfl := so_some h
        refine ⟨0, fun L hL => ?_⟩
        simp only [go_sem, ir71, fhk1, fhk2, hk3, hk5, hk6]
      · try simp only [go_sem, n1, n2, n3, n4, hk3, hk5] at hk6
        all_goals
        rcases it_some h with ⟨hk7, h⟩ | ⟨hk7, h⟩
        · try simp only [go_sem, n1, n2, n3, n4, hk3, hk5, hk6] at hk7
          all_goals
          obtain rfl := so_some h
          refine ⟨0, fun L hL => ?_⟩
          simp only [go_sem, ir71, fhk1, fhk2, hk3, hk5, hk6, hk7]
        · try simp only [go_sem, n1, n2, n3, n4, hk3, hk5, hk6] at hk7
          all_goals
          obtain rfl := so_some h
          refine ⟨0, fun L hL => ?_⟩
          simp only [go_sem, ir71, fhk1, fhk2, hk3, hk5, hk6, hk7]


theorem s_hCmp : Sound Try.prog 94 c_hCmp := hCmp_sound Try.func94 (by kernel_rfl) (by kernel_rfl) (by kernel_rfl) (by kernel_rfl)

def ir82_v : List Nat := [0, 1, 4]
def ir82 : AFn := ⟨2, 3, .seq (.region false [
    ⟨.var 2, 4, none, .mov (.c (.int .i64 (0)))⟩])
 (.seq (.region false [
    ⟨.push, 5, none, .mov (.v 0)⟩,
    ⟨.push, 6, none, .mov (.v 1)⟩,
    ⟨.push, 7, none, .call 94 [(.s 1), (.s 0)]⟩,
    ⟨.var 2, 4, none, .mov (.s 0)⟩])
 (.ret)), [.t 2]⟩
noncomputable def t_internal_bytealg_CompareString : List (Nat × Ctr) := [(94, c_hCmp)]
theorem lk_internal_bytealg_CompareString_94 : look t_internal_bytealg_CompareString 94 = some c_hCmp := rfl
noncomputable def c_internal_bytealg_CompareString : Ctr := mkF t_internal_bytealg_CompareString ir82 [.bor, .bor]
theorem s_internal_bytealg_CompareString : Sound Try.prog 82 c_internal_bytealg_CompareString := mkF_sound _ rfl (snd_cons s_hCmp snd_nil) (by kernel_rfl : chkFn Try.prog 82 ir82 ir82_v = true)
theorem M_internal_bytealg_CompareString : c_internal_bytealg_CompareString.modes = [.bor, .bor] := rfl
theorem Fl_internal_bytealg_CompareString : c_internal_bytealg_CompareString.flat = true := rfl
attribute [go_sem] M_internal_bytealg_CompareString Fl_internal_bytealg_CompareString
attribute [go_sem] lk_internal_bytealg_CompareString_94
theorem Fs_internal_bytealg_CompareString {a : List UInt8} {b : List UInt8} {y_ : Int} (h : internal_bytealg_CompareString a b = some y_) : c_internal_bytealg_CompareString.F [.str a, .str b] = ⟨true, .int .i64 y_, [.any, .any]⟩ := by
  refine mkF_E rfl ?_
  dsimp only [internal_bytealg_CompareString] at h
  obtain ⟨y_1, hk1, h⟩ := bd_some h
  have fhk1 := Fs_hCmp hk1
  try simp only [go_sem] at fhk1
  obtain rfl := so_some h
  refine ⟨0, fun L hL => ?_⟩
  simp only [go_sem, ir82, fhk1]


def ir72_v : List Nat := [0, 1, 4]
def ir72 : AFn := ⟨2, 3, .seq (.region false [
    ⟨.var 2, 4, none, .mov (.c (.int .i64 (0)))⟩])
 (.seq (.region false [
    ⟨.push, 5, none, .mov (.v 0)⟩,
    ⟨.push, 6, none, .mov (.v 1)⟩,
    ⟨.push, 7, none, .call 82 [(.s 1), (.s 0)]⟩,
    ⟨.var 2, 4, none, .mov (.s 0)⟩])
 (.ret)), [.t 2]⟩
noncomputable def t_strings_Compare : List (Nat × Ctr) := [(82, c_internal_bytealg_CompareString)]
theorem lk_strings_Compare_82 : look t_strings_Compare 82 = some c_internal_bytealg_CompareString := rfl
noncomputable def c_strings_Compare : Ctr := mkF t_strings_Compare ir72 [.bor, .bor]
theorem s_strings_Compare : Sound Try.prog 72 c_strings_Compare := mkF_sound _ rfl (snd_cons s_internal_bytealg_CompareString snd_nil) (by kernel_rfl : chkFn Try.prog 72 ir72 ir72_v = true)
theorem M_strings_Compare : c_strings_Compare.modes = [.bor, .bor] := rfl
theorem Fl_strings_Compare : c_strings_Compare.flat = true := rfl
attribute [go_sem] M_strings_Compare Fl_strings_Compare
attribute [go_sem] lk_strings_Compare_82
theorem Fs_strings_Compare {a : List UInt8} {b : List UInt8} {y_ : Int} (h : strings_Compare a b = some y_) : c_strings_Compare.F [.str a, .str b] = ⟨true, .int .i64 y_, [.any, .any]⟩ := by
  refine mkF_E rfl ?_
  dsimp only [strings_Compare] at h
  obtain ⟨y_1, hk1, h⟩ := bd_some h
  have fhk1 := Fs_internal_bytealg_CompareString hk1
  try simp only [go_sem] at fhk1
  obtain rfl := so_some h
  refine ⟨0, fun L hL => ?_⟩
  simp only [go_sem, ir72, fhk1]


def ir70_b0 : IR := .seq (.region false [
    ⟨.var 7, 9, none, .bin false .lss (.v 6) (.v 5)⟩])
 (.seq (.cond (.v 7) (.skip)
  (.exit 0))
 (.seq (.block 1 (.seq (.region false [
      ⟨.push, 10, none, .ixAddr 1 (.v 4) (.v 6)⟩,
      ⟨.push, 11, none, .load false 1 (.s 0)⟩,
      ⟨.var 3, 5, none, .mov (.s 0)⟩])
   (.test false [
     ⟨.push, 12, none, .mov (.v 3)⟩,
     ⟨.push, 13, none, .mov (.v 2)⟩,
     ⟨.push, 14, none, .bin false .neq (.s 1) (.s 0)⟩] (.s 0)
   (.seq (.region false [
       ⟨.push, 15, none, .mov (.v 3)⟩,
       ⟨.var 1, 2, none, .mov (.s 0)⟩])
    (.ret))
   (.skip))))
 (.region false [
   ⟨.push, 16, none, .bin false .add (.v 6) (.c (.int .i64 (1)))⟩,
   ⟨.var 6, 8, none, .mov (.s 0)⟩])))
def ir70_k0 : List Bool := [false, false, true, false, true, true, true, false]
def ir70_o0 : List Bool := [false, false, true, false, false, false, false, false]
def ir70_r0 : List Bool := [false, true, false, false, false, false, false, false]
def ir70_v : List Nat := [0, 2, 3, 5, 6, 7, 8, 9]
def ir70 : AFn := ⟨1, 8, .seq (.region false [
    ⟨.var 1, 2, none, .mov (.c (.int .i64 (0)))⟩])
 (.seq (.region false [
    ⟨.var 2, 3, none, .mov (.c (.int .i64 (0)))⟩])
 (.seq (.seq (.region false [
     ⟨.var 4, 6, none, .mov (.v 0)⟩,
     ⟨.var 5, 7, none, .len false (.v 4)⟩,
     ⟨.var 6, 8, none, .mov (.c (.int .i64 (0)))⟩])
  (.block 0 (.loop ir70_k0 ir70_o0 ir70_r0 ir70_b0)))
 (.seq (.region false [
    ⟨.push, 17, none, .mov (.v 2)⟩,
    ⟨.var 1, 2, none, .mov (.s 0)⟩])
 (.ret)))), [.t 1]⟩
noncomputable def t_cmp_Or_int : List (Nat × Ctr) := []
noncomputable def c_cmp_Or_int : Ctr := mkF t_cmp_Or_int ir70 [.bor]
theorem s_cmp_Or_int : Sound Try.prog 70 c_cmp_Or_int := mkF_sound _ rfl snd_nil (by kernel_rfl : chkFn Try.prog 70 ir70 ir70_v = true)
theorem M_cmp_Or_int : c_cmp_Or_int.modes = [.bor] := rfl
theorem Fl_cmp_Or_int : c_cmp_Or_int.flat = true := rfl
attribute [go_sem] M_cmp_Or_int Fl_cmp_Or_int
def E_cmp_Or_int_l1 (zero : Int) (t6 : List Int) (t7 : Int) : Int → St
  | t8 => ⟨[.any, .any, .int .i64 zero, .any, .sl 1 (List.map (AV.int .i64) t6), .int .i64 t7, .int .i64 t8, .any], [], [], true⟩
def R_cmp_Or_int_l1 (zero : Int) (t6 : List Int) (t7 : Int) : (Unit ⊕ Int) → Res
  | .inl y => (.exit 0, ⟨[.any, .any, .int .i64 zero, .any, .any, .any, .any, .any], [], [], true⟩)
  | .inr y => (.ret, ⟨[.any, .int .i64 y, .any, .any, .any, .any, .any, .any], [], [], true⟩)
theorem cmp_Or_int_l1_ex {zero : Int} {t6 : List Int} {t7 : Int} {sgm_ : Int} {rho_ : Unit ⊕ Int} (h : whileE (cmp_Or_int_l1 zero t6 t7) sgm_ = some rho_) : ∃ L0, ∀ L, L0 ≤ L → iter (exec (look t_cmp_Or_int) L ir70_b0) ir70_k0 ir70_o0 ir70_r0 L (E_cmp_Or_int_l1 zero t6 t7 sgm_) = R_cmp_Or_int_l1 zero t6 t7 rho_ := by
  refine loop_ex (E := E_cmp_Or_int_l1 zero t6 t7) (R := R_cmp_Or_int_l1 zero t6 t7) (fun y => by first | (intro c; cases c) | (rcases y with y | y <;> (intro c; cases c)) | (rcases y with y | y | y <;> (intro c; cases c))) ?_ h
  clear h
  intro t8 o_ h
  dsimp only [cmp_Or_int_l1] at h
  rcases it_some h with ⟨hk1, h⟩ | ⟨hk1, h⟩
  · try simp only [go_sem, n1, n2, n3, n4] at hk1
    all_goals
    obtain ⟨hk2, h⟩ := ck_some h
    have lhk2 := ix_lt hk2
    have xhk2 := getD_mapD (AV.int .i64) t6 lhk2
    try simp only [go_sem] at lhk2
    try simp only [go_sem] at xhk2
    try simp only [go_sem, n1, n2, n3, n4, hk1] at hk2
    all_goals
    rcases it_some h with ⟨hk3, h⟩ | ⟨hk3, h⟩
    · try simp only [go_sem, n1, n2, n3, n4, hk1, hk2] at hk3
      all_goals
      obtain rfl := so_some h
      refine ⟨0, fun L hL => ?_⟩
      simp only [go_sem, ir70, E_cmp_Or_int_l1, R_cmp_Or_int_l1, ir70_b0, ir70_k0, ir70_o0, ir70_r0, hk1, hk2, lhk2, xhk2, hk3]
    · try simp only [go_sem, n1, n2, n3, n4, hk1, hk2] at hk3
      all_goals
      obtain rfl := so_some h
      refine ⟨0, fun L hL => ?_⟩
      simp only [go_sem, ir70, E_cmp_Or_int_l1, R_cmp_Or_int_l1, ir70_b0, ir70_k0, ir70_o0, ir70_r0, hk1, hk2, lhk2, xhk2, hk3]
  · try simp only [go_sem, n1, n2, n3, n4] at hk1
    all_goals
    obtain rfl := so_some h
    refine ⟨0, fun L hL => ?_⟩
    simp only [go_sem, ir70, E_cmp_Or_int_l1, R_cmp_Or_int_l1, ir70_b0, ir70_k0, ir70_o0, ir70_r0, hk1]

theorem Fs_cmp_Or_int {vals : List Int} {y_ : Int} (h : cmp_Or_int vals = some y_) : c_cmp_Or_int.F [.sl 1 (List.map (AV.int .i64) vals)] = ⟨true, .int .i64 y_, [.any]⟩ := by
  refine mkF_E rfl ?_
  dsimp only [cmp_Or_int] at h
  obtain ⟨y_4, hk4, h⟩ := bd_some h
  obtain ⟨Lhk4, ehk4⟩ := cmp_Or_int_l1_ex hk4
  rcases y_4 with y_4a | y_4b
  · dsimp only at h
    obtain rfl := so_some h
    refine ⟨Lhk4, fun L hL => ?_⟩
    have ehk4 := ehk4 L (by omega)
    try simp only [go_sem, E_cmp_Or_int_l1, R_cmp_Or_int_l1, ir70_k0, ir70_o0, ir70_r0] at ehk4
    simp only [go_sem, ir70, E_cmp_Or_int_l1, R_cmp_Or_int_l1, ir70_k0, ir70_o0, ir70_r0, ehk4]
  · dsimp only at h
    obtain rfl := so_some h
    refine ⟨Lhk4, fun L hL => ?_⟩
    have ehk4 := ehk4 L (by omega)
    try simp only [go_sem, E_cmp_Or_int_l1, R_cmp_Or_int_l1, ir70_k0, ir70_o0, ir70_r0] at ehk4
    simp only [go_sem, ir70, E_cmp_Or_int_l1, R_cmp_Or_int_l1, ir70_k0, ir70_o0, ir70_r0, ehk4]


def ir52_v : List Nat := [0, 1, 2, 3, 4]
def ir52 : AFn := ⟨2, 5, .seq (.region false [
    ⟨.var 2, 2, none, .box (.v 0)⟩,
    ⟨.var 3, 3, none, .box (.v 1)⟩,
    ⟨.var 4, 4, none, .mov (.c (.int .i64 (0)))⟩])
 (.seq (.anyo 17 [
    ⟨.slot 0, 5, none, .fldAddr 0 (.v 2)⟩,
    ⟨.slot 1, 6, none, .load false 1 (.s 0)⟩,
    ⟨.slot 2, 7, none, .fldAddr 0 (.v 3)⟩,
    ⟨.slot 3, 8, none, .load false 1 (.s 2)⟩,
    ⟨.slot 4, 9, none, .callp 71 [(.s 1), (.s 3)]⟩,
    ⟨.slot 5, 10, none, .fldAddr 1 (.v 2)⟩,
    ⟨.slot 6, 11, none, .load false 1 (.s 5)⟩,
    ⟨.slot 7, 12, none, .fldAddr 1 (.v 3)⟩,
    ⟨.slot 8, 13, none, .load false 1 (.s 7)⟩,
    ⟨.slot 9, 14, none, .callp 72 [(.s 6), (.s 8)]⟩,
    ⟨.slot 10, 15, none, .fldAddr 2 (.v 2)⟩,
    ⟨.slot 11, 16, none, .load false 1 (.s 10)⟩,
    ⟨.slot 12, 17, none, .fldAddr 2 (.v 3)⟩,
    ⟨.slot 13, 18, none, .load false 1 (.s 12)⟩,
    ⟨.slot 14, 19, none, .callp 72 [(.s 11), (.s 13)]⟩,
    ⟨.slot 15, 20, none, .pur (.mkSl 1 (.int .i64 (0)) 3 [(0, (.s 4)), (1, (.s 9)), (2, (.s 14))])⟩,
    ⟨.slot 16, 21, none, .callp 70 [(.s 15)]⟩,
    ⟨.var 4, 4, none, .mov (.s 16)⟩] [] .skip)
 (.ret)), [.t 4]⟩
noncomputable def t_impl_compareEstimates : List (Nat × Ctr) := [(71, c_cmp_Compare_int64), (72, c_strings_Compare), (70, c_cmp_Or_int)]
theorem lk_impl_compareEstimates_71 : look t_impl_compareEstimates 71 = some c_cmp_Compare_int64 := rfl
theorem lk_impl_compareEstimates_72 : look t_impl_compareEstimates 72 = some c_strings_Compare := rfl
theorem lk_impl_compareEstimates_70 : look t_impl_compareEstimates 70 = some c_cmp_Or_int := rfl
noncomputable def c_impl_compareEstimates : Ctr := mkF t_impl_compareEstimates ir52 [.bor, .bor]
theorem s_impl_compareEstimates : Sound Try.prog 52 c_impl_compareEstimates := mkF_sound _ rfl (snd_cons s_cmp_Compare_int64 (snd_cons s_strings_Compare (snd_cons s_cmp_Or_int snd_nil))) (by kernel_rfl : chkFn Try.prog 52 ir52 ir52_v = true)
theorem M_impl_compareEstimates : c_impl_compareEstimates.modes = [.bor, .bor] := rfl
theorem Fl_impl_compareEstimates : c_impl_compareEstimates.flat = true := rfl
attribute [go_sem] M_impl_compareEstimates Fl_impl_compareEstimates
attribute [go_sem] lk_impl_compareEstimates_71 lk_impl_compareEstimates_72 lk_impl_compareEstimates_70
theorem Fs_impl_compareEstimates {a : Estimate} {b : Estimate} {y_ : Int} (h : impl_compareEstimates a b = some y_) : c_impl_compareEstimates.F [Estimate_av a, Estimate_av b] = ⟨true, .int .i64 y_, [.any, .any]⟩ := by
  refine mkF_E rfl ?_
  dsimp only [impl_compareEstimates] at h
  obtain ⟨y_1, hk1, h⟩ := bd_some h
  have fhk1 := Fs_cmp_Compare_int64 hk1
  try simp only [go_sem] at fhk1
  obtain ⟨y_2, hk2, h⟩ := bd_some h
  have fhk2 := Fs_strings_Compare hk2
  try simp only [go_sem] at fhk2
  obtain ⟨y_3, hk3, h⟩ := bd_some h
  have fhk3 := Fs_strings_Compare hk3
  try simp only [go_sem] at fhk3
  obtain ⟨y_4, hk4, h⟩ := bd_some h
  have fhk4 := Fs_cmp_Or_int hk4
  try simp only [go_sem] at fhk4
  obtain rfl := so_some h
  refine ⟨0, fun L hL => ?_⟩
  simp only [go_sem, ir52, fhk1, fhk2, fhk3, fhk4]


def ir22_b0 : IR := .seq (.region false [
    ⟨.var 7, 11, none, .bin false .lss (.v 6) (.v 5)⟩])
 (.seq (.cond (.v 7) (.skip)
  (.exit 0))
 (.seq (.block 1 (.seq (.region false [
      ⟨.push, 12, none, .mov (.v 6)⟩,
      ⟨.push, 13, none, .ixAddr 5 (.v 4) (.v 6)⟩,
      ⟨.push, 14, none, .load true 5 (.s 0)⟩,
      ⟨.var 3, 4, none, .alloc (.agg [.int .i64 (0), .str [], .str [], .int .i64 (0), .bool false])⟩,
      ⟨.var 2, 3, none, .mov (.s 2)⟩,
      ⟨.no, 0, none, .store 5 (.v 3) (.s 0)⟩])
   (.anyo 17 [
     ⟨.slot 0, 15, none, .load true 5 (.v 3)⟩,
     ⟨.slot 1, 16, none, .callp 51 [(.s 0)]⟩,
     ⟨.slot 2, 17, none, .un .not (.s 1)⟩,
     ⟨.slot 3, 18, none, .mov (.s 2)⟩,
     ⟨.slot 4, 19, (some ((.s 3), false)), .mov (.v 2)⟩,
     ⟨.slot 5, 20, (some ((.s 3), false)), .bin false .gtr (.s 4) (.c (.int .i64 (0)))⟩,
     ⟨.slot 6, 21, (some ((.s 3), false)), .mov (.s 5)⟩,
     ⟨.slot 7, 22, (some ((.s 6), true)), .mov (.v 0)⟩,
     ⟨.slot 8, 23, (some ((.s 6), true)), .mov (.v 2)⟩,
     ⟨.slot 9, 24, (some ((.s 6), true)), .bin false .sub (.s 8) (.c (.int .i64 (1)))⟩,
     ⟨.slot 10, 25, (some ((.s 6), true)), .ixAddr 5 (.s 7) (.s 9)⟩,
     ⟨.slot 11, 26, (some ((.s 6), true)), .load true 5 (.s 10)⟩,
     ⟨.slot 12, 27, (some ((.s 6), true)), .load true 5 (.v 3)⟩,
     ⟨.slot 13, 28, (some ((.s 6), true)), .call 52 [(.s 11), (.s 12)]⟩,
     ⟨.slot 14, 29, (some ((.s 6), true)), .bin false .geq (.s 13) (.c (.int .i64 (0)))⟩,
     ⟨.slot 15, 30, (some ((.s 3), false)), .pick (.s 6) (.s 14) (.c (.bool false))⟩,
     ⟨.slot 16, 31, none, .pick (.s 3) (.c (.bool true)) (.s 15)⟩] [] (.cond (.s 16)
   (.seq (.region false [
       ⟨.var 1, 2, none, .mov (.c (.bool false))⟩])
    (.ret))
   (.skip)))))
 (.region false [
   ⟨.push, 32, none, .bin false .add (.v 6) (.c (.int .i64 (1)))⟩,
   ⟨.var 6, 10, none, .mov (.s 0)⟩])))
def ir22_k0 : List Bool := [true, false, false, false, true, true, true, false]
def ir22_o0 : List Bool := [false, false, false, false, false, false, false, false]
def ir22_r0 : List Bool := [false, true, false, false, false, false, false, false]
def ir22_v : List Nat := [0, 2, 3, 4, 8, 9, 10, 11]
def ir22 : AFn := ⟨1, 8, .seq (.region false [
    ⟨.var 1, 2, none, .mov (.c (.bool false))⟩])
 (.seq (.test false [
    ⟨.push, 5, none, .mov (.v 0)⟩,
    ⟨.push, 6, none, .len false (.s 0)⟩,
    ⟨.push, 7, none, .bin false .gtr (.s 0) (.c (.int .i64 (100)))⟩] (.s 0)
  (.seq (.region false [
      ⟨.var 1, 2, none, .mov (.c (.bool false))⟩])
   (.ret))
  (.skip))
 (.seq (.seq (.region false [
     ⟨.var 4, 8, none, .mov (.v 0)⟩,
     ⟨.var 5, 9, none, .len false (.v 4)⟩,
     ⟨.var 6, 10, none, .mov (.c (.int .i64 (0)))⟩])
  (.block 0 (.loop ir22_k0 ir22_o0 ir22_r0 ir22_b0)))
 (.seq (.region false [
    ⟨.var 1, 2, none, .mov (.c (.bool true))⟩])
 (.ret)))), [.t 1]⟩
noncomputable def t_impl_ValidEstimates : List (Nat × Ctr) := [(51, c_impl_isEstimate), (52, c_impl_compareEstimates)]
theorem lk_impl_ValidEstimates_51 : look t_impl_ValidEstimates 51 = some c_impl_isEstimate := rfl
theorem lk_impl_ValidEstimates_52 : look t_impl_ValidEstimates 52 = some c_impl_compareEstimates := rfl
noncomputable def c_impl_ValidEstimates : Ctr := mkF t_impl_ValidEstimates ir22 [.bor]
theorem s_impl_ValidEstimates : Sound Try.prog 22 c_impl_ValidEstimates := mkF_sound _ rfl (snd_cons s_impl_isEstimate (snd_cons s_impl_compareEstimates snd_nil)) (by kernel_rfl : chkFn Try.prog 22 ir22 ir22_v = true)
theorem M_impl_ValidEstimates : c_impl_ValidEstimates.modes = [.bor] := rfl
theorem Fl_impl_ValidEstimates : c_impl_ValidEstimates.flat = true := rfl
attribute [go_sem] M_impl_ValidEstimates Fl_impl_ValidEstimates
attribute [go_sem] lk_impl_ValidEstimates_51 lk_impl_ValidEstimates_52
def E_impl_ValidEstimates_l1 (list : List Estimate) (t8 : List Estimate) (t9 : Int) : Int → St
  | t10 => ⟨[.sl 5 (List.map Estimate_av list), .any, .any, .any, .sl 5 (List.map Estimate_av t8), .int .i64 t9, .int .i64 t10, .any], [], [], true⟩
def R_impl_ValidEstimates_l1 (list : List Estimate) (t8 : List Estimate) (t9 : Int) : (Unit ⊕ Bool) → Res
  | .inl y => (.exit 0, ⟨[.any, .any, .any, .any, .any, .any, .any, .any], [], [], true⟩)
  | .inr y => (.ret, ⟨[.any, .bool y, .any, .any, .any, .any, .any, .any], [], [], true⟩)
theorem impl_ValidEstimates_l1_ex {list : List Estimate} {t8 : List Estimate} {t9 : Int} {sgm_ : Int} {rho_ : Unit ⊕ Bool} (h : whileE (impl_ValidEstimates_l1 list t8 t9) sgm_ = some rho_) : ∃ L0, ∀ L, L0 ≤ L → iter (exec (look t_impl_ValidEstimates) L ir22_b0) ir22_k0 ir22_o0 ir22_r0 L (E_impl_ValidEstimates_l1 list t8 t9 sgm_) = R_impl_ValidEstimates_l1 list t8 t9 rho_ := by
  refine loop_ex (E := E_impl_ValidEstimates_l1 list t8 t9) (R := R_impl_ValidEstimates_l1 list t8 t9) (fun y => by first | (intro c; cases c) | (rcases y with y | y <;> (intro c; cases c)) | (rcases y with y | y | y <;> (intro c; cases c))) ?_ h
  clear h
  intro t10 o_ h
  dsimp only [impl_ValidEstimates_l1] at h
  rcases it_some h with ⟨hk2, h⟩ | ⟨hk2, h⟩
  · try simp only [go_sem, n1, n2, n3, n4] at hk2
    all_goals
    obtain ⟨hk3, h⟩ := ck_some h
    have lhk3 := ix_lt hk3
    have xhk3 := getD_mapD Estimate_av t8 lhk3
    try simp only [go_sem] at lhk3
    try simp only [go_sem] at xhk3
    try simp only [go_sem, n1, n2, n3, n4, hk2] at hk3
    all_goals
    obtain ⟨y_4, hk4, h⟩ := bd_some h
    have fhk4 := Fs_impl_isEstimate hk4
    try simp only [go_sem, hk2, hk3] at fhk4
    obtain ⟨hk5, h⟩ := ck_some h
    rcases or_split hk5 with ⟨ghk5, hk5⟩ | ghk5
    · try simp only [go_sem, n1, n2, n3, n4, hk2, hk3] at ghk5
      all_goals
      have lhk5 := ix_lt hk5
      have xhk5 := getD_mapD Estimate_av list lhk5
      try simp only [go_sem] at lhk5
      try simp only [go_sem] at xhk5
      try simp only [go_sem, n1, n2, n3, n4, hk2, hk3, ghk5] at hk5
      all_goals
      obtain ⟨hk6, h⟩ := ck_some h
      rcases or_split hk6 with ⟨ghk6, hk6⟩ | ghk6
      · try simp only [go_sem, n1, n2, n3, n4, hk2, hk3, ghk5, hk5] at ghk6
        all_goals
        obtain ⟨y_6, hhk6⟩ := Option.isSome_iff_exists.1 hk6
        have fhk6 := Fs_impl_compareEstimates hhk6
        try simp only [go_sem, hk2, hk3, ghk5, hk5, ghk6] at fhk6
        rcases it_some h with ⟨hk7, h⟩ | ⟨hk7, h⟩
        · try simp only [go_sem, n1, n2, n3, n4, hk2, hk3, ghk5, hk5, ghk6, hhk6] at hk7
          all_goals
          obtain rfl := so_some h
          refine ⟨0, fun L hL => ?_⟩
          simp only [go_sem, ir22, E_impl_ValidEstimates_l1, R_impl_ValidEstimates_l1, ir22_b0, ir22_k0, ir22_o0, ir22_r0, hk2, hk3, lhk3, xhk3, fhk4, ghk5, hk5, lhk5, xhk5, ghk6, hhk6, fhk6, hk7]
        · try simp only [go_sem, n1, n2, n3, n4, hk2, hk3, ghk5, hk5, ghk6, hhk6] at hk7
          all_goals
          obtain rfl := so_some h
          refine ⟨0, fun L hL => ?_⟩
          simp only [go_sem, ir22, E_impl_ValidEstimates_l1, R_impl_ValidEstimates_l1, ir22_b0, ir22_k0, ir22_o0, ir22_r0, hk2, hk3, lhk3, xhk3, fhk4, ghk5, hk5, lhk5, xhk5, ghk6, hhk6, fhk6, hk7]
      · rcases and_f ghk6 with ghk6a | ⟨ghk6a, ghk6b⟩
        · have ghk6an := no_f ghk6a
          have ghk6ann := no_t ghk6an
          try simp only [go_sem, n1, n2, n3, n4, hk2, hk3, ghk5, hk5] at ghk6ann
          all_goals
          rcases it_some h with ⟨hk7, h⟩ | ⟨hk7, h⟩
          · try simp only [go_sem, n1, n2, n3, n4, hk2, hk3, ghk5, hk5, ghk6ann] at hk7
            all_goals
            obtain rfl := so_some h
            refine ⟨0, fun L hL => ?_⟩
            simp only [go_sem, ir22, E_impl_ValidEstimates_l1, R_impl_ValidEstimates_l1, ir22_b0, ir22_k0, ir22_o0, ir22_r0, hk2, hk3, lhk3, xhk3, fhk4, ghk5, hk5, lhk5, xhk5, ghk6ann, hk7]
          · try simp only [go_sem, n1, n2, n3, n4, hk2, hk3, ghk5, hk5, ghk6ann] at hk7
            all_goals
            obtain rfl := so_some h
            refine ⟨0, fun L hL => ?_⟩
            simp only [go_sem, ir22, E_impl_ValidEstimates_l1, R_impl_ValidEstimates_l1, ir22_b0, ir22_k0, ir22_o0, ir22_r0, hk2, hk3, lhk3, xhk3, fhk4, ghk5, hk5, lhk5, xhk5, ghk6ann, hk7]
        · have ghk6an := no_t ghk6a
          have ghk6ann := no_f ghk6an
          try simp only [go_sem, n1, n2, n3, n4, hk2, hk3, ghk5, hk5] at ghk6ann
          all_goals
          try simp only [go_sem, n1, n2, n3, n4, hk2, hk3, ghk5, hk5, ghk6ann] at ghk6b
          all_goals
          rcases it_some h with ⟨hk7, h⟩ | ⟨hk7, h⟩
          · try simp only [go_sem, n1, n2, n3, n4, hk2, hk3, ghk5, hk5, ghk6ann, ghk6b] at hk7
            all_goals
            obtain rfl := so_some h
            refine ⟨0, fun L hL => ?_⟩
            simp only [go_sem, ir22, E_impl_ValidEstimates_l1, R_impl_ValidEstimates_l1, ir22_b0, ir22_k0, ir22_o0, ir22_r0, hk2, hk3, lhk3, xhk3, fhk4, ghk5, hk5, lhk5, xhk5, ghk6ann, ghk6b, hk7]
          · try simp only [go_sem, n1, n2, n3, n4, hk2, hk3, ghk5, hk5, ghk6ann, ghk6b] at hk7
            all_goals
            obtain rfl := so_some h
            refine ⟨0, fun L hL => ?_⟩
            simp only [go_sem, ir22, E_impl_ValidEstimates_l1, R_impl_ValidEstimates_l1, ir22_b0, ir22_k0, ir22_o0, ir22_r0, hk2, hk3, lhk3, xhk3, fhk4, ghk5, hk5, lhk5, xhk5, ghk6ann, ghk6b, hk7]
    · rcases and_f ghk5 with ghk5a | ⟨ghk5a, ghk5b⟩
      · have ghk5an := no_f ghk5a
        have ghk5ann := no_t ghk5an
        try simp only [go_sem, n1, n2, n3, n4, hk2, hk3] at ghk5ann
        all_goals
        obtain ⟨hk6, h⟩ := ck_some h
        rcases or_split hk6 with ⟨ghk6, hk6⟩ | ghk6
        · try simp only [go_sem, n1, n2, n3, n4, hk2, hk3, ghk5ann] at ghk6
          all_goals
          obtain ⟨y_6, hhk6⟩ := Option.isSome_iff_exists.1 hk6
          have fhk6 := Fs_impl_compareEstimates hhk6
          try simp only [go_sem, hk2, hk3, ghk5ann, ghk6] at fhk6
          rcases it_some h with ⟨hk7, h⟩ | ⟨hk7, h⟩
          · try simp only [go_sem, n1, n2, n3, n4, hk2, hk3, ghk5ann, ghk6, hhk6] at hk7
            all_goals
            obtain rfl := so_some h
            refine ⟨0, fun L hL => ?_⟩
            simp only [go_sem, ir22, E_impl_ValidEstimates_l1, R_impl_ValidEstimates_l1, ir22_b0, ir22_k0, ir22_o0, ir22_r0, hk2, hk3, lhk3, xhk3, fhk4, ghk5ann, ghk6, hhk6, fhk6, hk7]
          · try simp only [go_sem, n1, n2, n3, n4, hk2, hk3, ghk5ann, ghk6, hhk6] at hk7
            all_goals
            obtain rfl := so_some h
            refine ⟨0, fun L hL => ?_⟩
            simp only [go_sem, ir22, E_impl_ValidEstimates_l1, R_impl_ValidEstimates_l1, ir22_b0, ir22_k0, ir22_o0, ir22_r0, hk2, hk3, lhk3, xhk3, fhk4, ghk5ann, ghk6, hhk6, fhk6, hk7]
        · rcases and_f ghk6 with ghk6a | ⟨ghk6a, ghk6b⟩
          · have ghk6an := no_f ghk6a
            have ghk6ann := no_t ghk6an
            try simp only [go_sem, n1, n2, n3, n4, hk2, hk3, ghk5ann] at ghk6ann
            all_goals
            rcases it_some h with ⟨hk7, h⟩ | ⟨hk7, h⟩
            · try simp only [go_sem, n1, n2, n3, n4, hk2, hk3, ghk5ann, ghk6ann] at hk7
              all_goals
              obtain rfl := so_some h
              refine ⟨0, fun L hL => ?_⟩
              simp only [go_sem, ir22, E_impl_ValidEstimates_l1, R_impl_ValidEstimates_l1, ir22_b0, ir22_k0, ir22_o0, ir22_r0, hk2, hk3, lhk3, xhk3, fhk4, ghk5ann, ghk6ann, hk7]
            · try simp only [go_sem, n1, n2, n3, n4, hk2, hk3, ghk5ann, ghk6ann] at hk7
              all_goals
              obtain rfl := so_some h
              refine ⟨0, fun L hL => ?_⟩
              simp only [go_sem, ir22, E_impl_ValidEstimates_l1, R_impl_ValidEstimates_l1, ir22_b0, ir22_k0, ir22_o0, ir22_r0, hk2, hk3, lhk3, xhk3, fhk4, ghk5ann, ghk6ann, hk7]
          · have ghk6an := no_t ghk6a
            have ghk6ann := no_f ghk6an
            try simp only [go_sem, n1, n2, n3, n4, hk2, hk3, ghk5ann] at ghk6ann
            all_goals
            try simp only [go_sem, n1, n2, n3, n4, hk2, hk3, ghk5ann, ghk6ann] at ghk6b
            all_goals
            rcases it_some h with ⟨hk7, h⟩ | ⟨hk7, h⟩
            · try simp only [go_sem, n1, n2, n3, n4, hk2, hk3, ghk5ann, ghk6ann, ghk6b] at hk7
              all_goals
              obtain rfl := so_some h
              refine ⟨0, fun L hL => ?_⟩
              simp only [go_sem, ir22, E_impl_ValidEstimates_l1, R_impl_ValidEstimates_l1, ir22_b0, ir22_k0, ir22_o0, ir22_r0, hk2, hk3, lhk3, xhk3, fhk4, ghk5ann, ghk6ann, ghk6b, hk7]
            · try simp only [go_sem, n1, n2, n3, n4, hk2, hk3, ghk5ann, ghk6ann, ghk6b] at hk7
              all_goals
              obtain rfl := so_some h
              refine ⟨0, fun L hL => ?_⟩
              simp only [go_sem, ir22, E_impl_ValidEstimates_l1, R_impl_ValidEstimates_l1, ir22_b0, ir22_k0, ir22_o0, ir22_r0, hk2, hk3, lhk3, xhk3, fhk4, ghk5ann, ghk6ann, ghk6b, hk7]
      · have ghk5an := no_t ghk5a
        have ghk5ann := no_f ghk5an
        try simp only [go_sem, n1, n2, n3, n4, hk2, hk3] at ghk5ann
        all_goals
        try simp only [go_sem, n1, n2, n3, n4, hk2, hk3, ghk5ann] at ghk5b
        all_goals
        obtain ⟨hk6, h⟩ := ck_some h
        rcases or_split hk6 with ⟨ghk6, hk6⟩ | ghk6
        · try simp only [go_sem, n1, n2, n3, n4, hk2, hk3, ghk5ann, ghk5b] at ghk6
          all_goals
          obtain ⟨y_6, hhk6⟩ := Option.isSome_iff_exists.1 hk6
          have fhk6 := Fs_impl_compareEstimates hhk6
          try simp only [go_sem, hk2, hk3, ghk5ann, ghk5b, ghk6] at fhk6
          rcases it_some h with ⟨hk7, h⟩ | ⟨hk7, h⟩
          · try simp only [go_sem, n1, n2, n3, n4, hk2, hk3, ghk5ann, ghk5b, ghk6, hhk6] at hk7
            all_goals
            obtain rfl := so_some h
            refine ⟨0, fun L hL => ?_⟩
            simp only [go_sem, ir22, E_impl_ValidEstimates_l1, R_impl_ValidEstimates_l1, ir22_b0, ir22_k0, ir22_o0, ir22_r0, hk2, hk3, lhk3, xhk3, fhk4, ghk5ann, ghk5b, ghk6, hhk6, fhk6, hk7]
          · try simp only [go_sem, n1, n2, n3, n4, hk2, hk3, ghk5ann, ghk5b, ghk6, hhk6] at hk7
            all_goals
            obtain rfl := so_some h
            refine ⟨0, fun L hL => ?_⟩
            simp only [go_sem, ir22, E_impl_ValidEstimates_l1, R_impl_ValidEstimates_l1, ir22_b0, ir22_k0, ir22_o0, ir22_r0, hk2, hk3, lhk3, xhk3, fhk4, ghk5ann, ghk5b, ghk6, hhk6, fhk6, hk7]
        · rcases and_f ghk6 with ghk6a | ⟨ghk6a, ghk6b⟩
          · have ghk6an := no_f ghk6a
            have ghk6ann := no_t ghk6an
            try simp only [go_sem, n1, n2, n3, n4, hk2, hk3, ghk5ann, ghk5b] at ghk6ann
            all_goals
            rcases it_some h with ⟨hk7, h⟩ | ⟨hk7, h⟩
            · try simp only [go_sem, n1, n2, n3, n4, hk2, hk3, ghk5ann, ghk5b, ghk6ann] at hk7
              all_goals
              obtain rfl := so_some h
              refine ⟨0, fun L hL => ?_⟩
              simp only [go_sem, ir22, E_impl_ValidEstimates_l1, R_impl_ValidEstimates_l1, ir22_b0, ir22_k0, ir22_o0, ir22_r0, hk2, hk3, lhk3, xhk3, fhk4, ghk5ann, ghk5b, ghk6ann, hk7]
            · try simp only [go_sem, n1, n2, n3, n4, hk2, hk3, ghk5ann, ghk5b, ghk6ann] at hk7
              all_goals
              obtain rfl := so_some h
              refine ⟨0, fun L hL => ?_⟩
              simp only [go_sem, ir22, E_impl_ValidEstimates_l1, R_impl_ValidEstimates_l1, ir22_b0, ir22_k0, ir22_o0, ir22_r0, hk2, hk3, lhk3, xhk3, fhk4, ghk5ann, ghk5b, ghk6ann, hk7]
          · have ghk6an := no_t ghk6a
            have ghk6ann := no_f ghk6an
            try simp only [go_sem, n1, n2, n3, n4, hk2, hk3, ghk5ann, ghk5b] at ghk6ann
            all_goals
            try simp only [go_sem, n1, n2, n3, n4, hk2, hk3, ghk5ann, ghk5b, ghk6ann] at ghk6b
            all_goals
            rcases it_some h with ⟨hk7, h⟩ | ⟨hk7, h⟩
            · try simp only [go_sem, n1, n2, n3, n4, hk2, hk3, ghk5ann, ghk5b, ghk6ann, ghk6b] at hk7
              all_goals
              obtain rfl := so_some h
              refine ⟨0, fun L hL => ?_⟩
              simp only [go_sem, ir22, E_impl_ValidEstimates_l1, R_impl_ValidEstimates_l1, ir22_b0, ir22_k0, ir22_o0, ir22_r0, hk2, hk3, lhk3, xhk3, fhk4, ghk5ann, ghk5b, ghk6ann, ghk6b, hk7]
            · try simp only [go_sem, n1, n2, n3, n4, hk2, hk3, ghk5ann, ghk5b, ghk6ann, ghk6b] at hk7
              all_goals
              obtain rfl := so_some h
              refine ⟨0, fun L hL => ?_⟩
              simp only [go_sem, ir22, E_impl_ValidEstimates_l1, R_impl_ValidEstimates_l1, ir22_b0, ir22_k0, ir22_o0, ir22_r0, hk2, hk3, lhk3, xhk3, fhk4, ghk5ann, ghk5b, ghk6ann, ghk6b, hk7]
  · try simp only [go_sem, n1, n2, n3, n4] at hk2
    all_goals
    obtain rfl := so_some h
    refine ⟨0, fun L hL => ?_⟩
    simp only [go_sem, ir22, E_impl_ValidEstimates_l1, R_impl_ValidEstimates_l1, ir22_b0, ir22_k0, ir22_o0, ir22_r0, hk2]

theorem Fs_impl_ValidEstimates {list : List Estimate} {y_ : Bool} (h : impl_ValidEstimates list = some y_) : c_impl_ValidEstimates.F [.sl 5 (List.map Estimate_av list)] = ⟨true, .bool y_, [.any]⟩ := by
  refine mkF_E rfl ?_
  dsimp only [impl_ValidEstimates] at h
  rcases it_some h with ⟨hk1, h⟩ | ⟨hk1, h⟩
  · try simp only [go_sem, n1, n2, n3, n4] at hk1
    all_goals
    obtain rfl := so_some h
    refine ⟨0, fun L hL => ?_⟩
    simp only [go_sem, ir22, E_impl_ValidEstimates_l1, R_impl_ValidEstimates_l1, ir22_k0, ir22_o0, ir22_r0, hk1]
  · try simp only [go_sem, n1, n2, n3, n4] at hk1
    all_goals
    obtain ⟨y_8, hk8, h⟩ := bd_some h
    obtain ⟨Lhk8, ehk8⟩ := impl_ValidEstimates_l1_ex hk8
    rcases y_8 with y_8a | y_8b
    · dsimp only at h
      obtain rfl := so_some h
      refine ⟨Lhk8, fun L hL => ?_⟩
      have ehk8 := ehk8 L (by omega)
      try simp only [go_sem, E_impl_ValidEstimates_l1, R_impl_ValidEstimates_l1, ir22_k0, ir22_o0, ir22_r0, hk1] at ehk8
      simp only [go_sem, ir22, E_impl_ValidEstimates_l1, R_impl_ValidEstimates_l1, ir22_k0, ir22_o0, ir22_r0, hk1, ehk8]
    · dsimp only at h
      obtain rfl := so_some h
      refine ⟨Lhk8, fun L hL => ?_⟩
      have ehk8 := ehk8 L (by omega)
      try simp only [go_sem, E_impl_ValidEstimates_l1, R_impl_ValidEstimates_l1, ir22_k0, ir22_o0, ir22_r0, hk1] at ehk8
      simp only [go_sem, ir22, E_impl_ValidEstimates_l1, R_impl_ValidEstimates_l1, ir22_k0, ir22_o0, ir22_r0, hk1, ehk8]


def ir24_v : List Nat := [0, 1, 2]
def ir24 : AFn := ⟨1, 3, .seq (.region false [
    ⟨.var 1, 1, none, .box (.v 0)⟩,
    ⟨.var 2, 2, none, .mov (.c (.str []))⟩])
 (.seq (.region false [
    ⟨.push, 3, none, .fldAddr 1 (.v 1)⟩,
    ⟨.push, 4, none, .load false 1 (.s 0)⟩,
    ⟨.var 2, 2, none, .mov (.s 0)⟩])
 (.ret)), [.t 2]⟩
noncomputable def t_impl_starOf : List (Nat × Ctr) := []
noncomputable def c_impl_starOf : Ctr := mkF t_impl_starOf ir24 [.bor]
theorem s_impl_starOf : Sound Try.prog 24 c_impl_starOf := mkF_sound _ rfl snd_nil (by kernel_rfl : chkFn Try.prog 24 ir24 ir24_v = true)
theorem M_impl_starOf : c_impl_starOf.modes = [.bor] := rfl
theorem Fl_impl_starOf : c_impl_starOf.flat = true := rfl
attribute [go_sem] M_impl_starOf Fl_impl_starOf
theorem Fs_impl_starOf {e_ : Estimate} {y_ : (List UInt8)} (h : impl_starOf e_ = some y_) : c_impl_starOf.F [Estimate_av e_] = ⟨true, .str y_, [.any]⟩ := by
  refine mkF_E rfl ?_
  dsimp only [impl_starOf] at h
  obtain rfl := so_some h
  refine ⟨0, fun L hL => ?_⟩
  simp only [go_sem, ir24]


theorem s_hSort : Sound Try.prog 53 c_hSort := hSort_is

theorem s_hCompact : Sound Try.prog 54 c_hCompact := hCompact_is

def ir23_b0 : IR := .seq (.region false [
    ⟨.var 8, 12, none, .bin false .lss (.v 7) (.v 6)⟩])
 (.seq (.cond (.v 8) (.skip)
  (.exit 0))
 (.seq (.block 1 (.seq (.region false [
      ⟨.push, 13, none, .ixAddr 5 (.v 5) (.v 7)⟩,
      ⟨.push, 14, none, .load true 5 (.s 0)⟩,
      ⟨.var 4, 7, none, .alloc (.agg [.int .i64 (0), .str [], .str [], .int .i64 (0), .bool false])⟩,
      ⟨.no, 0, none, .store 5 (.v 4) (.s 0)⟩])
   (.region false [
     ⟨.push, 15, none, .mov (.v 3)⟩,
     ⟨.push, 16, none, .mov (.v 1)⟩,
     ⟨.push, 17, none, .load true 5 (.v 4)⟩,
     ⟨.push, 18, none, .callv (.s 1) [(.s 0)]⟩,
     ⟨.push, 19, none, .mkSl 1 (.str []) 1 [(0, (.s 0))]⟩,
     ⟨.push, 20, none, .app 1 16 (.str []) (.s 4) (.s 0)⟩,
     ⟨.var 3, 5, none, .mov (.s 0)⟩])))
 (.region false [
   ⟨.push, 21, none, .bin false .add (.v 7) (.c (.int .i64 (1)))⟩,
   ⟨.var 7, 11, none, .mov (.s 0)⟩])))
def ir23_k0 : List Bool := [false, true, false, true, false, true, true, true, false]
def ir23_o0 : List Bool := [false, false, false, true, false, false, false, false, false]
def ir23_r0 : List Bool := [false, false, true, false, false, false, false, false, false]
def ir23_v : List Nat := [0, 1, 4, 5, 7, 9, 10, 11, 12]
def ir23 : AFn := ⟨2, 9, .seq (.region false [
    ⟨.var 2, 4, none, .newnil 1⟩])
 (.seq (.region false [
    ⟨.push, 8, none, .mkSl 1 (.str []) 0 []⟩,
    ⟨.var 3, 5, none, .mov (.s 0)⟩])
 (.seq (.seq (.region false [
     ⟨.var 5, 9, none, .mov (.v 0)⟩,
     ⟨.var 6, 10, none, .len false (.v 5)⟩,
     ⟨.var 7, 11, none, .mov (.c (.int .i64 (0)))⟩])
  (.block 0 (.loop ir23_k0 ir23_o0 ir23_r0 ir23_b0)))
 (.seq (.region false [
    ⟨.push, 22, none, .mov (.v 3)⟩,
    ⟨.push, 23, none, .call 53 [(.s 0)]⟩])
 (.seq (.region false [
    ⟨.push, 24, none, .mov (.v 3)⟩,
    ⟨.push, 25, none, .call 54 [(.s 0)]⟩,
    ⟨.var 2, 4, none, .mov (.s 0)⟩])
 (.ret))))), [.t 2]⟩
noncomputable def t_impl_namesOf__impl_starOf : List (Nat × Ctr) := [(24, c_impl_starOf), (53, c_hSort), (54, c_hCompact)]
theorem lk_impl_namesOf__impl_starOf_24 : look t_impl_namesOf__impl_starOf 24 = some c_impl_starOf := rfl
theorem lk_impl_namesOf__impl_starOf_53 : look t_impl_namesOf__impl_starOf 53 = some c_hSort := rfl
theorem lk_impl_namesOf__impl_starOf_54 : look t_impl_namesOf__impl_starOf 54 = some c_hCompact := rfl
noncomputable def c_impl_namesOf__impl_starOf : Ctr := mkF t_impl_namesOf__impl_starOf ir23 [.bor, .bor]
theorem s_impl_namesOf__impl_starOf : Sound Try.prog 23 c_impl_namesOf__impl_starOf := mkF_sound _ rfl (snd_cons s_impl_starOf (snd_cons s_hSort (snd_cons s_hCompact snd_nil))) (by kernel_rfl : chkFn Try.prog 23 ir23 ir23_v = true)
theorem M_impl_namesOf__impl_starOf : c_impl_namesOf__impl_starOf.modes = [.bor, .bor] := rfl
theorem Fl_impl_namesOf__impl_starOf : c_impl_namesOf__impl_starOf.flat = true := rfl
attribute [go_sem] M_impl_namesOf__impl_starOf Fl_impl_namesOf__impl_starOf
attribute [go_sem] lk_impl_namesOf__impl_starOf_24 lk_impl_namesOf__impl_starOf_53 lk_impl_namesOf__impl_starOf_54
def E_impl_namesOf__impl_starOf_l1 (t9 : List Estimate) (t10 : Int) : ((List (List UInt8)) × Int) → St
  | (out, t11) => ⟨[.any, .fn (.func 24) [] [], .any, .own 3200000, .any, .sl 5 (List.map Estimate_av t9), .int .i64 t10, .int .i64 t11, .any], [], [(3200000, ⟨1, List.map AV.str out⟩)], true⟩
def R_impl_namesOf__impl_starOf_l1 (t9 : List Estimate) (t10 : Int) (y : (List (List UInt8))) : Res := (.exit 0, ⟨[.any, .any, .any, .own 3200000, .any, .any, .any, .any, .any], [], [(3200000, ⟨1, List.map AV.str y⟩)], true⟩)
theorem impl_namesOf__impl_starOf_l1_ex {t9 : List Estimate} {t10 : Int} {sgm_ : (List (List UInt8)) × Int} {rho_ : (List (List UInt8))} (h : whileE (impl_namesOf__impl_starOf_l1 t9 t10) sgm_ = some rho_) : ∃ L0, ∀ L, L0 ≤ L → iter (exec (look t_impl_namesOf__impl_starOf) L ir23_b0) ir23_k0 ir23_o0 ir23_r0 L (E_impl_namesOf__impl_starOf_l1 t9 t10 sgm_) = R_impl_namesOf__impl_starOf_l1 t9 t10 rho_ := by
  refine loop_ex (E := E_impl_namesOf__impl_starOf_l1 t9 t10) (R := R_impl_namesOf__impl_starOf_l1 t9 t10) (fun y => by first | (intro c; cases c) | (rcases y with y | y <;> (intro c; cases c)) | (rcases y with y | y | y <;> (intro c; cases c))) ?_ h
  clear h
  rintro ⟨out, t11⟩ o_ h
  dsimp only [impl_namesOf__impl_starOf_l1] at h
  rcases it_some h with ⟨hk1, h⟩ | ⟨hk1, h⟩
  · try simp only [go_sem, n1, n2, n3, n4] at hk1
    all_goals
    obtain ⟨hk2, h⟩ := ck_some h
    have lhk2 := ix_lt hk2
    have xhk2 := getD_mapD Estimate_av t9 lhk2
    try simp only [go_sem] at lhk2
    try simp only [go_sem] at xhk2
    try simp only [go_sem, n1, n2, n3, n4, hk1] at hk2
    all_goals
    obtain ⟨y_3, hk3, h⟩ := bd_some h
    have fhk3 := Fs_impl_starOf hk3
    try simp only [go_sem, hk1, hk2] at fhk3
    obtain ⟨hk4, h⟩ := ck_some h
    try simp only [go_sem, n1, n2, n3, n4, hk1, hk2] at hk4
    all_goals
    obtain rfl := so_some h
    refine ⟨0, fun L hL => ?_⟩
    simp only [go_sem, ir23, E_impl_namesOf__impl_starOf_l1, R_impl_namesOf__impl_starOf_l1, ir23_b0, ir23_k0, ir23_o0, ir23_r0, hk1, hk2, lhk2, xhk2, fhk3, hk4]
  · try simp only [go_sem, n1, n2, n3, n4] at hk1
    all_goals
    obtain rfl := so_some h
    refine ⟨0, fun L hL => ?_⟩
    simp only [go_sem, ir23, E_impl_namesOf__impl_starOf_l1, R_impl_namesOf__impl_starOf_l1, ir23_b0, ir23_k0, ir23_o0, ir23_r0, hk1]

theorem Fs_impl_namesOf__impl_starOf {list : List Estimate} {y_ : (List (List UInt8))} (h : impl_namesOf__impl_starOf list = some y_) : c_impl_namesOf__impl_starOf.F [.sl 5 (List.map Estimate_av list), .fn (.func 24) [] []] = ⟨true, .fresh 1 (List.map AV.str y_), [.any, .any]⟩ := by
  refine mkF_E (by simp only [flatA, flatB, flat1, List.all_cons, List.all_nil, Bool.and_self, flatE_map (f := AV.str) (fun _ => rfl)]) ?_
  dsimp only [impl_namesOf__impl_starOf] at h
  obtain ⟨y_5, hk5, h⟩ := bd_some h
  obtain ⟨Lhk5, ehk5⟩ := impl_namesOf__impl_starOf_l1_ex hk5
  obtain ⟨y_6, hk6, h⟩ := bd_some h
  have fhk6 := Fs_hSort hk6
  try simp only [go_sem] at fhk6
  obtain ⟨y_7, hk7, h⟩ := bd_some h
  have fhk7 := Fs_hCompact hk7
  try simp only [go_sem] at fhk7
  obtain rfl := so_some h
  refine ⟨Lhk5, fun L hL => ?_⟩
  have ehk5 := ehk5 L (by omega)
  try simp only [go_sem, E_impl_namesOf__impl_starOf_l1, R_impl_namesOf__impl_starOf_l1, ir23_k0, ir23_o0, ir23_r0] at ehk5
  simp only [go_sem, ir23, E_impl_namesOf__impl_starOf_l1, R_impl_namesOf__impl_starOf_l1, ir23_k0, ir23_o0, ir23_r0, fhk6, fhk7, ehk5]


def ir25_v : List Nat := [0, 1, 2]
def ir25 : AFn := ⟨1, 3, .seq (.region false [
    ⟨.var 1, 1, none, .box (.v 0)⟩,
    ⟨.var 2, 2, none, .mov (.c (.str []))⟩])
 (.seq (.region false [
    ⟨.push, 3, none, .fldAddr 2 (.v 1)⟩,
    ⟨.push, 4, none, .load false 1 (.s 0)⟩,
    ⟨.var 2, 2, none, .mov (.s 0)⟩])
 (.ret)), [.t 2]⟩
noncomputable def t_impl_observerOf : List (Nat × Ctr) := []
noncomputable def c_impl_observerOf : Ctr := mkF t_impl_observerOf ir25 [.bor]
theorem s_impl_observerOf : Sound Try.prog 25 c_impl_observerOf := mkF_sound _ rfl snd_nil (by kernel_rfl : chkFn Try.prog 25 ir25 ir25_v = true)
theorem M_impl_observerOf : c_impl_observerOf.modes = [.bor] := rfl
theorem Fl_impl_observerOf : c_impl_observerOf.flat = true := rfl
attribute [go_sem] M_impl_observerOf Fl_impl_observerOf
theorem Fs_impl_observerOf {e_ : Estimate} {y_ : (List UInt8)} (h : impl_observerOf e_ = some y_) : c_impl_observerOf.F [Estimate_av e_] = ⟨true, .str y_, [.any]⟩ := by
  refine mkF_E rfl ?_
  dsimp only [impl_observerOf] at h
  obtain rfl := so_some h
  refine ⟨0, fun L hL => ?_⟩
  simp only [go_sem, ir25]


noncomputable def t_impl_namesOf__impl_observerOf : List (Nat × Ctr) := [(25, c_impl_observerOf), (53, c_hSort), (54, c_hCompact)]
theorem lk_impl_namesOf__impl_observerOf_25 : look t_impl_namesOf__impl_observerOf 25 = some c_impl_observerOf := rfl
theorem lk_impl_namesOf__impl_observerOf_53 : look t_impl_namesOf__impl_observerOf 53 = some c_hSort := rfl
theorem lk_impl_namesOf__impl_observerOf_54 : look t_impl_namesOf__impl_observerOf 54 = some c_hCompact := rfl
noncomputable def c_impl_namesOf__impl_observerOf : Ctr := mkF t_impl_namesOf__impl_observerOf ir23 [.bor, .bor]
theorem s_impl_namesOf__impl_observerOf : Sound Try.prog 23 c_impl_namesOf__impl_observerOf := mkF_sound _ rfl (snd_cons s_impl_observerOf (snd_cons s_hSort (snd_cons s_hCompact snd_nil))) (by kernel_rfl : chkFn Try.prog 23 ir23 ir23_v = true)
theorem M_impl_namesOf__impl_observerOf : c_impl_namesOf__impl_observerOf.modes = [.bor, .bor] := rfl
theorem Fl_impl_namesOf__impl_observerOf : c_impl_namesOf__impl_observerOf.flat = true := rfl
attribute [go_sem] M_impl_namesOf__impl_observerOf Fl_impl_namesOf__impl_observerOf
attribute [go_sem] lk_impl_namesOf__impl_observerOf_25 lk_impl_namesOf__impl_observerOf_53 lk_impl_namesOf__impl_observerOf_54
def E_impl_namesOf__impl_observerOf_l1 (t9 : List Estimate) (t10 : Int) : ((List (List UInt8)) × Int) → St
  | (out, t11) => ⟨[.any, .fn (.func 25) [] [], .any, .own 3200000, .any, .sl 5 (List.map Estimate_av t9), .int .i64 t10, .int .i64 t11, .any], [], [(3200000, ⟨1, List.map AV.str out⟩)], true⟩
def R_impl_namesOf__impl_observerOf_l1 (t9 : List Estimate) (t10 : Int) (y : (List (List UInt8))) : Res := (.exit 0, ⟨[.any, .any, .any, .own 3200000, .any, .any, .any, .any, .any], [], [(3200000, ⟨1, List.map AV.str y⟩)], true⟩)
theorem impl_namesOf__impl_observerOf_l1_ex {t9 : List Estimate} {t10 : Int} {sgm_ : (List (List UInt8)) × Int} {rho_ : (List (List UInt8))} (h : whileE (impl_namesOf__impl_observerOf_l1 t9 t10) sgm_ = some rho_) : ∃ L0, ∀ L, L0 ≤ L → iter (exec (look t_impl_namesOf__impl_observerOf) L ir23_b0) ir23_k0 ir23_o0 ir23_r0 L (E_impl_namesOf__impl_observerOf_l1 t9 t10 sgm_) = R_impl_namesOf__impl_observerOf_l1 t9 t10 rho_ := by
  refine loop_ex (E := E_impl_namesOf__impl_observerOf_l1 t9 t10) (R := R_impl_namesOf__impl_observerOf_l1 t9 t10) (fun y => by first | (intro c; cases c) | (rcases y with y | y <;> (intro c; cases c)) | (rcases y with y | y | y <;> (intro c; cases c))) ?_ h
  clear h
  rintro ⟨out, t11⟩ o_ h
  dsimp only [impl_namesOf__impl_observerOf_l1] at h
  rcases it_some h with ⟨hk1, h⟩ | ⟨hk1, h⟩
  · try simp only [go_sem, n1, n2, n3, n4] at hk1
    all_goals
    obtain ⟨hk2, h⟩ := ck_some h
    have lhk2 := ix_lt hk2
    have xhk2 := getD_mapD Estimate_av t9 lhk2
    try simp only [go_sem] at lhk2
    try simp only [go_sem] at xhk2
    try simp only [go_sem, n1, n2, n3, n4, hk1] at hk2
    all_goals
    obtain ⟨y_3, hk3, h⟩ := bd_some h
    have fhk3 := Fs_impl_observerOf hk3
    try simp only [go_sem, hk1, hk2] at fhk3
    obtain ⟨hk4, h⟩ := ck_some h
    try simp only [go_sem, n1, n2, n3, n4, hk1, hk2] at hk4
    all_goals
    obtain rfl := so_some h
    refine ⟨0, fun L hL => ?_⟩
    simp only [go_sem, ir23, E_impl_namesOf__impl_observerOf_l1, R_impl_namesOf__impl_observerOf_l1, ir23_b0, ir23_k0, ir23_o0, ir23_r0, hk1, hk2, lhk2, xhk2, fhk3, hk4]
  · try simp only [go_sem, n1, n2, n3, n4] at hk1
    all_goals
    obtain rfl := so_some h
    refine ⟨0, fun L hL => ?_⟩
    simp only [go_sem, ir23, E_impl_namesOf__impl_observerOf_l1, R_impl_namesOf__impl_observerOf_l1, ir23_b0, ir23_k0, ir23_o0, ir23_r0, hk1]

theorem Fs_impl_namesOf__impl_observerOf {list : List Estimate} {y_ : (List (List UInt8))} (h : impl_namesOf__impl_observerOf list = some y_) : c_impl_namesOf__impl_observerOf.F [.sl 5 (List.map Estimate_av list), .fn (.func 25) [] []] = ⟨true, .fresh 1 (List.map AV.str y_), [.any, .any]⟩ := by
  refine mkF_E (by simp only [flatA, flatB, flat1, List.all_cons, List.all_nil, Bool.and_self, flatE_map (f := AV.str) (fun _ => rfl)]) ?_
  dsimp only [impl_namesOf__impl_observerOf] at h
  obtain ⟨y_5, hk5, h⟩ := bd_some h
  obtain ⟨Lhk5, ehk5⟩ := impl_namesOf__impl_observerOf_l1_ex hk5
  obtain ⟨y_6, hk6, h⟩ := bd_some h
  have fhk6 := Fs_hSort hk6
  try simp only [go_sem] at fhk6
  obtain ⟨y_7, hk7, h⟩ := bd_some h
  have fhk7 := Fs_hCompact hk7
  try simp only [go_sem] at fhk7
  obtain rfl := so_some h
  refine ⟨Lhk5, fun L hL => ?_⟩
  have ehk5 := ehk5 L (by omega)
  try simp only [go_sem, E_impl_namesOf__impl_observerOf_l1, R_impl_namesOf__impl_observerOf_l1, ir23_k0, ir23_o0, ir23_r0] at ehk5
  simp only [go_sem, ir23, E_impl_namesOf__impl_observerOf_l1, R_impl_namesOf__impl_observerOf_l1, ir23_k0, ir23_o0, ir23_r0, fhk6, fhk7, ehk5]


def ir27_b0 : IR := .seq (.test false [
    ⟨.push, 5, none, .mov (.v 1)⟩,
    ⟨.push, 6, none, .bin false .geq (.s 0) (.c (.int .i64 (128)))⟩] (.s 0)
  (.skip)
  (.exit 0))
 (.seq (.block 1 (.region false [
     ⟨.push, 9, none, .mov (.v 0)⟩,
     ⟨.push, 10, none, .mov (.v 1)⟩,
     ⟨.push, 11, none, .bin false .rem (.s 0) (.c (.int .i64 (128)))⟩,
     ⟨.push, 12, none, .bin false .add (.s 0) (.c (.int .i64 (128)))⟩,
     ⟨.push, 13, none, .conv .u8 (.s 0)⟩,
     ⟨.push, 14, none, .mkSl 1 (.int .u8 (0)) 1 [(0, (.s 0))]⟩,
     ⟨.push, 15, none, .app 1 1 (.int .u8 (0)) (.s 5) (.s 0)⟩,
     ⟨.var 0, 0, none, .mov (.s 0)⟩]))
 (.region false [
   ⟨.push, 7, none, .mov (.v 1)⟩,
   ⟨.push, 8, none, .bin false .quo (.s 0) (.c (.int .i64 (128)))⟩,
   ⟨.var 1, 1, none, .mov (.s 0)⟩]))
def ir27_k0 : List Bool := [true, true, false]
def ir27_o0 : List Bool := [true, true, false]
def ir27_r0 : List Bool := [false, false, true]
def ir27_v : List Nat := [0, 1, 4]
def ir27 : AFn := ⟨2, 3, .seq (.region false [
    ⟨.var 2, 4, none, .newnil 1⟩])
 (.seq (.block 0 (.loop ir27_k0 ir27_o0 ir27_r0 ir27_b0))
 (.seq (.region false [
    ⟨.push, 16, none, .mov (.v 0)⟩,
    ⟨.push, 17, none, .mov (.v 1)⟩,
    ⟨.push, 18, none, .conv .u8 (.s 0)⟩,
    ⟨.push, 19, none, .mkSl 1 (.int .u8 (0)) 1 [(0, (.s 0))]⟩,
    ⟨.push, 20, none, .app 1 1 (.int .u8 (0)) (.s 3) (.s 0)⟩,
    ⟨.var 2, 4, none, .mov (.s 0)⟩])
 (.ret))), [.t 2]⟩
noncomputable def t_impl_appendNumber : List (Nat × Ctr) := []
noncomputable def c_impl_appendNumber : Ctr := mkF t_impl_appendNumber ir27 [.mov, .bor]
theorem s_impl_appendNumber : Sound Try.prog 27 c_impl_appendNumber := mkF_sound _ rfl snd_nil (by kernel_rfl : chkFn Try.prog 27 ir27 ir27_v = true)
theorem M_impl_appendNumber : c_impl_appendNumber.modes = [.mov, .bor] := rfl
theorem Fl_impl_appendNumber : c_impl_appendNumber.flat = true := rfl
attribute [go_sem] M_impl_appendNumber Fl_impl_appendNumber
def E_impl_appendNumber_l1  : ((List UInt8) × Int) → St
  | (b, n) => ⟨[.own 31, .int .i64 n, .any], [], [(31, ⟨1, List.map byteAV b⟩)], true⟩
def R_impl_appendNumber_l1  (y : (List UInt8) × Int) : Res := (.exit 0, ⟨[.own 31, .int .i64 y.2, .any], [], [(31, ⟨1, List.map byteAV y.1⟩)], true⟩)
theorem impl_appendNumber_l1_ex  {sgm_ : (List UInt8) × Int} {rho_ : (List UInt8) × Int} (h : whileE (impl_appendNumber_l1) sgm_ = some rho_) : ∃ L0, ∀ L, L0 ≤ L → iter (exec (look t_impl_appendNumber) L ir27_b0) ir27_k0 ir27_o0 ir27_r0 L (E_impl_appendNumber_l1 sgm_) = R_impl_appendNumber_l1 rho_ := by
  refine loop_ex (E := E_impl_appendNumber_l1) (R := R_impl_appendNumber_l1) (fun y => by first | (intro c; cases c) | (rcases y with y | y <;> (intro c; cases c)) | (rcases y with y | y | y <;> (intro c; cases c))) ?_ h
  clear h
  rintro ⟨b, n⟩ o_ h
  dsimp only [impl_appendNumber_l1] at h
  rcases it_some h with ⟨hk1, h⟩ | ⟨hk1, h⟩
  · try simp only [go_sem, n1, n2, n3, n4] at hk1
    all_goals
    obtain ⟨hk2, h⟩ := ck_some h
    try simp only [go_sem, n1, n2, n3, n4, hk1] at hk2
    all_goals
    obtain ⟨hk3, h⟩ := ck_some h
    try simp only [go_sem, n1, n2, n3, n4, hk1, hk2] at hk3
    all_goals
    obtain rfl := so_some h
    refine ⟨0, fun L hL => ?_⟩
    simp only [go_sem, ir27, E_impl_appendNumber_l1, R_impl_appendNumber_l1, ir27_b0, ir27_k0, ir27_o0, ir27_r0, hk1, hk2, hk3]
  · try simp only [go_sem, n1, n2, n3, n4] at hk1
    all_goals
    obtain rfl := so_some h
    refine ⟨0, fun L hL => ?_⟩
    simp only [go_sem, ir27, E_impl_appendNumber_l1, R_impl_appendNumber_l1, ir27_b0, ir27_k0, ir27_o0, ir27_r0, hk1]

theorem Fs_impl_appendNumber {b : List UInt8} {n : Int} {y_ : (List UInt8)} (h : impl_appendNumber b n = some y_) : c_impl_appendNumber.F [.fresh 1 (List.map byteAV b), .int .i64 n] = ⟨true, .fresh 1 (List.map byteAV y_), [.any, .any]⟩ := by
  refine mkF_E (by simp only [flatA, flatB, flat1, List.all_cons, List.all_nil, Bool.and_self, flatE_map (f := byteAV) (fun _ => rfl)]) ?_
  dsimp only [impl_appendNumber] at h
  obtain ⟨y_4, hk4, h⟩ := bd_some h
  obtain ⟨Lhk4, ehk4⟩ := impl_appendNumber_l1_ex hk4
  obtain ⟨hk5, h⟩ := ck_some h
  try simp only [go_sem, n1, n2, n3, n4] at hk5
  all_goals
  obtain rfl := so_some h
  refine ⟨Lhk4, fun L hL => ?_⟩
  have ehk4 := ehk4 L (by omega)
  try simp only [go_sem, E_impl_appendNumber_l1, R_impl_appendNumber_l1, ir27_k0, ir27_o0, ir27_r0, hk5] at ehk4
  simp only [go_sem, ir27, E_impl_appendNumber_l1, R_impl_appendNumber_l1, ir27_k0, ir27_o0, ir27_r0, hk5, ehk4]


def ir26_b0 : IR := .seq (.region false [
    ⟨.var 7, 14, none, .bin false .lss (.v 6) (.v 5)⟩])
 (.seq (.cond (.v 7) (.skip)
  (.exit 0))
 (.seq (.block 1 (.seq (.region false [
      ⟨.push, 15, none, .ixAddr 1 (.v 4) (.v 6)⟩,
      ⟨.push, 16, none, .load false 1 (.s 0)⟩,
      ⟨.var 3, 6, none, .mov (.s 0)⟩])
   (.region false [
     ⟨.push, 17, none, .mov (.v 0)⟩,
     ⟨.push, 18, none, .mov (.v 3)⟩,
     ⟨.push, 19, none, .len true (.s 0)⟩,
     ⟨.push, 20, none, .call 27 [(.s 2), (.s 0)]⟩,
     ⟨.push, 21, none, .mov (.v 3)⟩,
     ⟨.push, 22, none, .app 1 1 (.int .u8 (0)) (.s 1) (.s 0)⟩,
     ⟨.var 0, 0, none, .mov (.s 0)⟩])))
 (.region false [
   ⟨.push, 23, none, .bin false .add (.v 6) (.c (.int .i64 (1)))⟩,
   ⟨.var 6, 13, none, .mov (.s 0)⟩])))
def ir26_k0 : List Bool := [true, false, false, false, true, true, true, false]
def ir26_o0 : List Bool := [true, false, false, false, false, false, false, false]
def ir26_r0 : List Bool := [false, false, true, false, false, false, false, false]
def ir26_v : List Nat := [0, 1, 4, 6, 11, 12, 13, 14]
def ir26 : AFn := ⟨2, 8, .seq (.region false [
    ⟨.var 2, 4, none, .newnil 1⟩])
 (.seq (.region false [
    ⟨.push, 7, none, .mov (.v 0)⟩,
    ⟨.push, 8, none, .mov (.v 1)⟩,
    ⟨.push, 9, none, .call 40 [(.s 0)]⟩,
    ⟨.push, 10, none, .call 27 [(.s 2), (.s 0)]⟩,
    ⟨.var 0, 0, none, .mov (.s 0)⟩])
 (.seq (.seq (.region false [
     ⟨.var 4, 11, none, .mov (.v 1)⟩,
     ⟨.var 5, 12, none, .len false (.v 4)⟩,
     ⟨.var 6, 13, none, .mov (.c (.int .i64 (0)))⟩])
  (.block 0 (.loop ir26_k0 ir26_o0 ir26_r0 ir26_b0)))
 (.seq (.region false [
    ⟨.push, 24, none, .mov (.v 0)⟩,
    ⟨.var 2, 4, none, .mov (.s 0)⟩])
 (.ret)))), [.t 2]⟩
noncomputable def t_impl_appendNames : List (Nat × Ctr) := [(40, c_impl_count_string), (27, c_impl_appendNumber)]
theorem lk_impl_appendNames_40 : look t_impl_appendNames 40 = some c_impl_count_string := rfl
theorem lk_impl_appendNames_27 : look t_impl_appendNames 27 = some c_impl_appendNumber := rfl
noncomputable def c_impl_appendNames : Ctr := mkF t_impl_appendNames ir26 [.mov, .bor]
theorem s_impl_appendNames : Sound Try.prog 26 c_impl_appendNames := mkF_sound _ rfl (snd_cons s_impl_count_string (snd_cons s_impl_appendNumber snd_nil)) (by kernel_rfl : chkFn Try.prog 26 ir26 ir26_v = true)
theorem M_impl_appendNames : c_impl_appendNames.modes = [.mov, .bor] := rfl
theorem Fl_impl_appendNames : c_impl_appendNames.flat = true := rfl
attribute [go_sem] M_impl_appendNames Fl_impl_appendNames
attribute [go_sem] lk_impl_appendNames_40 lk_impl_appendNames_27
def E_impl_appendNames_l1 (t11 : List (List UInt8)) (t12 : Int) : ((List UInt8) × Int) → St
  | (b, t13) => ⟨[.own 3200000, .any, .any, .any, .sl 1 (List.map AV.str t11), .int .i64 t12, .int .i64 t13, .any], [], [(3200000, ⟨1, List.map byteAV b⟩)], true⟩
def R_impl_appendNames_l1 (t11 : List (List UInt8)) (t12 : Int) (y : (List UInt8)) : Res := (.exit 0, ⟨[.own 3200000, .any, .any, .any, .any, .any, .any, .any], [], [(3200000, ⟨1, List.map byteAV y⟩)], true⟩)
theorem impl_appendNames_l1_ex {t11 : List (List UInt8)} {t12 : Int} {sgm_ : (List UInt8) × Int} {rho_ : (List UInt8)} (h : whileE (impl_appendNames_l1 t11 t12) sgm_ = some rho_) : ∃ L0, ∀ L, L0 ≤ L → iter (exec (look t_impl_appendNames) L ir26_b0) ir26_k0 ir26_o0 ir26_r0 L (E_impl_appendNames_l1 t11 t12 sgm_) = R_impl_appendNames_l1 t11 t12 rho_ := by
  refine loop_ex (E := E_impl_appendNames_l1 t11 t12) (R := R_impl_appendNames_l1 t11 t12) (fun y => by first | (intro c; cases c) | (rcases y with y | y <;> (intro c; cases c)) | (rcases y with y | y | y <;> (intro c; cases c))) ?_ h
  clear h
  rintro ⟨b, t13⟩ o_ h
  dsimp only [impl_appendNames_l1] at h
  rcases it_some h with ⟨hk3, h⟩ | ⟨hk3, h⟩
  · try simp only [go_sem, n1, n2, n3, n4] at hk3
    all_goals
    obtain ⟨hk4, h⟩ := ck_some h
    have lhk4 := ix_lt hk4
    have xhk4 := getD_mapD AV.str t11 lhk4
    try simp only [go_sem] at lhk4
    try simp only [go_sem] at xhk4
    try simp only [go_sem, n1, n2, n3, n4, hk3] at hk4
    all_goals
    obtain ⟨y_5, hk5, h⟩ := bd_some h
    have fhk5 := Fs_impl_appendNumber hk5
    try simp only [go_sem, hk3, hk4] at fhk5
    obtain ⟨hk6, h⟩ := ck_some h
    try simp only [go_sem, n1, n2, n3, n4, hk3, hk4] at hk6
    all_goals
    obtain rfl := so_some h
    refine ⟨0, fun L hL => ?_⟩
    simp only [go_sem, ir26, E_impl_appendNames_l1, R_impl_appendNames_l1, ir26_b0, ir26_k0, ir26_o0, ir26_r0, hk3, hk4, lhk4, xhk4, fhk5, hk6]
  · try simp only [go_sem, n1, n2, n3, n4] at hk3
    all_goals
    obtain rfl := so_some h
    refine ⟨0, fun L hL => ?_⟩
    simp only [go_sem, ir26, E_impl_appendNames_l1, R_impl_appendNames_l1, ir26_b0, ir26_k0, ir26_o0, ir26_r0, hk3]

theorem Fs_impl_appendNames {b : List UInt8} {names : List (List UInt8)} {y_ : (List UInt8)} (h : impl_appendNames b names = some y_) : c_impl_appendNames.F [.fresh 1 (List.map byteAV b), .sl 1 (List.map AV.str names)] = ⟨true, .fresh 1 (List.map byteAV y_), [.any, .any]⟩ := by
  refine mkF_E (by simp only [flatA, flatB, flat1, List.all_cons, List.all_nil, Bool.and_self, flatE_map (f := byteAV) (fun _ => rfl)]) ?_
  dsimp only [impl_appendNames] at h
  obtain ⟨y_1, hk1, h⟩ := bd_some h
  have fhk1 := Fs_impl_count_string hk1
  try simp only [go_sem] at fhk1
  obtain ⟨y_2, hk2, h⟩ := bd_some h
  have fhk2 := Fs_impl_appendNumber hk2
  try simp only [go_sem] at fhk2
  obtain ⟨y_7, hk7, h⟩ := bd_some h
  obtain ⟨Lhk7, ehk7⟩ := impl_appendNames_l1_ex hk7
  obtain rfl := so_some h
  refine ⟨Lhk7, fun L hL => ?_⟩
  have ehk7 := ehk7 L (by omega)
  try simp only [go_sem, E_impl_appendNames_l1, R_impl_appendNames_l1, ir26_k0, ir26_o0, ir26_r0] at ehk7
  simp only [go_sem, ir26, E_impl_appendNames_l1, R_impl_appendNames_l1, ir26_k0, ir26_o0, ir26_r0, fhk1, fhk2, ehk7]


def ir28_v : List Nat := [0, 2]
def ir28 : AFn := ⟨1, 2, .seq (.region false [
    ⟨.var 1, 2, none, .mov (.c (.int .i64 (0)))⟩])
 (.seq (.region false [
    ⟨.push, 3, none, .mov (.v 0)⟩,
    ⟨.push, 4, none, .len false (.s 0)⟩,
    ⟨.var 1, 2, none, .mov (.s 0)⟩])
 (.ret)), [.t 1]⟩
noncomputable def t_impl_count_impl_Estimate : List (Nat × Ctr) := []
noncomputable def c_impl_count_impl_Estimate : Ctr := mkF t_impl_count_impl_Estimate ir28 [.bor]
theorem s_impl_count_impl_Estimate : Sound Try.prog 28 c_impl_count_impl_Estimate := mkF_sound _ rfl snd_nil (by kernel_rfl : chkFn Try.prog 28 ir28 ir28_v = true)
theorem M_impl_count_impl_Estimate : c_impl_count_impl_Estimate.modes = [.bor] := rfl
theorem Fl_impl_count_impl_Estimate : c_impl_count_impl_Estimate.flat = true := rfl
attribute [go_sem] M_impl_count_impl_Estimate Fl_impl_count_impl_Estimate
theorem Fs_impl_count_impl_Estimate {list : List Estimate} {y_ : Int} (h : impl_count_impl_Estimate list = some y_) : c_impl_count_impl_Estimate.F [.sl 5 (List.map Estimate_av list)] = ⟨true, .int .i64 y_, [.any]⟩ := by
  refine mkF_E rfl ?_
  dsimp only [impl_count_impl_Estimate] at h
  obtain rfl := so_some h
  refine ⟨0, fun L hL => ?_⟩
  simp only [go_sem, ir28]


def ir31_v : List Nat := [0, 2, 3]
def ir31 : AFn := ⟨1, 3, .seq (.region false [
    ⟨.var 1, 2, none, .newnil 1⟩])
 (.seq (.region false [
    ⟨.push, 4, none, .mov (.v 0)⟩,
    ⟨.push, 5, none, .call 57 [(.s 0)]⟩,
    ⟨.var 2, 3, none, .mov (.s 0)⟩])
 (.seq (.region false [
    ⟨.push, 6, none, .mov (.v 0)⟩,
    ⟨.push, 7, none, .mov (.v 2)⟩,
    ⟨.push, 8, none, .bin false .quo (.s 0) (.c (.int .i64 (256)))⟩,
    ⟨.push, 9, none, .conv .u8 (.s 0)⟩,
    ⟨.push, 10, none, .mov (.v 2)⟩,
    ⟨.push, 11, none, .bin false .rem (.s 0) (.c (.int .i64 (256)))⟩,
    ⟨.push, 12, none, .conv .u8 (.s 0)⟩,
    ⟨.push, 13, none, .mkSl 1 (.int .u8 (0)) 2 [(0, (.s 3)), (1, (.s 0))]⟩,
    ⟨.push, 14, none, .app 1 1 (.int .u8 (0)) (.s 7) (.s 0)⟩,
    ⟨.var 1, 2, none, .mov (.s 0)⟩])
 (.ret))), [.t 1]⟩
noncomputable def t_impl_sealed : List (Nat × Ctr) := [(57, c_impl_SumOfBytes)]
theorem lk_impl_sealed_57 : look t_impl_sealed 57 = some c_impl_SumOfBytes := rfl
noncomputable def c_impl_sealed : Ctr := mkF t_impl_sealed ir31 [.mov]
theorem s_impl_sealed : Sound Try.prog 31 c_impl_sealed := mkF_sound _ rfl (snd_cons s_impl_SumOfBytes snd_nil) (by kernel_rfl : chkFn Try.prog 31 ir31 ir31_v = true)
theorem M_impl_sealed : c_impl_sealed.modes = [.mov] := rfl
theorem Fl_impl_sealed : c_impl_sealed.flat = true := rfl
attribute [go_sem] M_impl_sealed Fl_impl_sealed
attribute [go_sem] lk_impl_sealed_57
theorem Fs_impl_sealed {b : List UInt8} {y_ : (List UInt8)} (h : impl_sealed b = some y_) : c_impl_sealed.F [.fresh 1 (List.map byteAV b)] = ⟨true, .fresh 1 (List.map byteAV y_), [.any]⟩ := by
  refine mkF_E (by simp only [flatA, flatB, flat1, List.all_cons, List.all_nil, Bool.and_self, flatE_map (f := byteAV) (fun _ => rfl)]) ?_
  dsimp only [impl_sealed] at h
  obtain ⟨y_1, hk1, h⟩ := bd_some h
  have fhk1 := Fs_impl_SumOfBytes hk1
  try simp only [go_sem] at fhk1
  obtain ⟨hk2, h⟩ := ck_some h
  try simp only [go_sem, n1, n2, n3, n4] at hk2
  all_goals
  obtain ⟨hk3, h⟩ := ck_some h
  try simp only [go_sem, n1, n2, n3, n4, hk2] at hk3
  all_goals
  obtain rfl := so_some h
  refine ⟨0, fun L hL => ?_⟩
  simp only [go_sem, ir31, fhk1, hk2, hk3]


def ir8_b1 : IR := .seq (.region false [
    ⟨.var 18, 62, none, .bin false .lss (.v 17) (.v 16)⟩])
 (.seq (.cond (.v 18) (.skip)
  (.exit 2))
 (.seq (.block 3 (.seq (.region false [
      ⟨.push, 63, none, .ixAddr 1 (.v 15) (.v 17)⟩,
      ⟨.push, 64, none, .load false 1 (.s 0)⟩,
      ⟨.var 10, 13, none, .mov (.s 0)⟩])
   (.region false [
     ⟨.push, 65, none, .mov (.v 5)⟩,
     ⟨.push, 66, none, .mov (.v 10)⟩,
     ⟨.push, 67, none, .call 27 [(.s 1), (.s 0)]⟩,
     ⟨.var 5, 6, none, .mov (.s 0)⟩])))
 (.region false [
   ⟨.push, 68, none, .bin false .add (.v 17) (.c (.int .i64 (1)))⟩,
   ⟨.var 17, 61, none, .mov (.s 0)⟩])))
def ir8_k1 : List Bool := [false, false, false, true, true, true, false, false, true, false, false, true, true, true, false, true, true, true, false]
def ir8_o1 : List Bool := [false, false, false, true, true, true, false, false, true, false, false, true, true, true, false, false, false, false, false]
def ir8_r1 : List Bool := [false, true, true, false, false, false, false, false, false, false, false, false, false, false, false, false, false, false, false]
def ir8_b0 : IR := .seq (.region false [
    ⟨.var 14, 33, none, .bin false .lss (.v 13) (.v 12)⟩])
 (.seq (.cond (.v 14) (.skip)
  (.exit 0))
 (.seq (.block 1 (.seq (.region false [
      ⟨.push, 34, none, .ixAddr 5 (.v 11) (.v 13)⟩,
      ⟨.push, 35, none, .load true 5 (.s 0)⟩,
      ⟨.var 8, 10, none, .alloc (.agg [.int .i64 (0), .str [], .str [], .int .i64 (0), .bool false])⟩,
      ⟨.no, 0, none, .store 5 (.v 8) (.s 0)⟩])
   (.seq (.region false [
      ⟨.push, 36, none, .mov (.v 4)⟩,
      ⟨.push, 37, none, .fldAddr 2 (.v 8)⟩,
      ⟨.push, 38, none, .load false 1 (.s 0)⟩,
      ⟨.push, 39, none, .call 29 [(.s 2), (.s 0)]⟩,
      ⟨.push, 40, none, .bin false .mul (.c (.int .i64 (2))) (.s 0)⟩,
      ⟨.var 9, 11, none, .mov (.s 0)⟩])
   (.seq (.test false [
      ⟨.push, 41, none, .fldAddr 4 (.v 8)⟩,
      ⟨.push, 42, none, .load false 1 (.s 0)⟩] (.s 0)
    (.region false [
       ⟨.push, 43, none, .mov (.v 9)⟩,
       ⟨.push, 44, none, .bin false .add (.s 0) (.c (.int .i64 (1)))⟩,
       ⟨.var 9, 11, none, .mov (.s 0)⟩])
    (.skip))
   (.seq (.seq (.anyo 14 [
       ⟨.slot 0, 45, none, .fldAddr 0 (.v 8)⟩,
       ⟨.slot 1, 46, none, .load false 1 (.s 0)⟩,
       ⟨.slot 2, 47, none, .mov (.v 6)⟩,
       ⟨.slot 3, 48, none, .bin false .sub (.s 1) (.s 2)⟩,
       ⟨.slot 4, 49, none, .mov (.v 3)⟩,
       ⟨.slot 5, 50, none, .fldAddr 1 (.v 8)⟩,
       ⟨.slot 6, 51, none, .load false 1 (.s 5)⟩,
       ⟨.slot 7, 52, none, .callp 29 [(.s 4), (.s 6)]⟩,
       ⟨.slot 8, 53, none, .mov (.v 9)⟩,
       ⟨.slot 9, 54, none, .fldAddr 3 (.v 8)⟩,
       ⟨.slot 10, 55, none, .load false 1 (.s 9)⟩,
       ⟨.slot 11, 56, none, .mov (.v 7)⟩,
       ⟨.slot 12, 57, none, .bin false .sub (.s 10) (.s 11)⟩,
       ⟨.slot 13, 58, none, .callp 30 [(.s 12)]⟩,
       ⟨.var 15, 59, none, .mkSl 1 (.int .i64 (0)) 4 [(0, (.s 3)), (1, (.s 7)), (2, (.s 8)), (3, (.s 13))]⟩,
       ⟨.var 16, 60, none, .len false (.v 15)⟩,
       ⟨.var 17, 61, none, .mov (.c (.int .i64 (0)))⟩] [[0, 1, 2, 3, 4, 5, 6, 7, 8, 9, 10, 11, 12, 13, 16, 14, 15]] .skip)
    (.block 2 (.loop ir8_k1 ir8_o1 ir8_r1 ir8_b1)))
   (.anyo 4 [
     ⟨.slot 0, 69, none, .fldAddr 0 (.v 8)⟩,
     ⟨.slot 1, 70, none, .load false 1 (.s 0)⟩,
     ⟨.slot 2, 71, none, .fldAddr 3 (.v 8)⟩,
     ⟨.slot 3, 72, none, .load false 1 (.s 2)⟩,
     ⟨.var 6, 7, none, .mov (.s 1)⟩,
     ⟨.var 7, 8, none, .mov (.s 3)⟩] [] .skip))))))
 (.region false [
   ⟨.push, 73, none, .bin false .add (.v 13) (.c (.int .i64 (1)))⟩,
   ⟨.var 13, 32, none, .mov (.s 0)⟩])))
def ir8_k0 : List Bool := [false, false, false, true, true, true, true, true, false, false, false, true, true, true, false, false, false, false, false]
def ir8_o0 : List Bool := [false, false, false, false, false, true, false, false, false, false, false, false, false, false, false, false, false, false, false]
def ir8_r0 : List Bool := [false, true, true, false, false, false, false, false, false, false, false, false, false, false, false, false, false, false, false]
def ir8_v : List Nat := [0, 2, 3, 4, 5, 6, 7, 8, 10, 11, 13, 30, 31, 32, 33, 59, 60, 61, 62]
def ir8 : AFn := ⟨1, 19, .seq (.region false [
    ⟨.var 1, 2, none, .newnil 1⟩,
    ⟨.var 2, 3, none, .mov (.c (.int .i64 (0)))⟩])
 (.seq (.test false [
    ⟨.push, 14, none, .mov (.v 0)⟩,
    ⟨.push, 15, none, .call 22 [(.s 0)]⟩,
    ⟨.push, 16, none, .un .not (.s 0)⟩] (.s 0)
  (.seq (.region false [
      ⟨.var 1, 2, none, .newnil 1⟩,
      ⟨.var 2, 3, none, .mov (.c (.int .i64 (1)))⟩])
   (.ret))
  (.skip))
 (.seq (.region false [
    ⟨.push, 17, none, .mov (.v 0)⟩,
    ⟨.push, 18, none, .call 23 [(.s 0), (.c (.fn (.func 24) [] []))]⟩,
    ⟨.push, 19, none, .mov (.v 0)⟩,
    ⟨.push, 20, none, .call 23 [(.s 0), (.c (.fn (.func 25) [] []))]⟩,
    ⟨.var 3, 4, none, .mov (.s 2)⟩,
    ⟨.var 4, 5, none, .mov (.s 0)⟩])
 (.seq (.region false [
    ⟨.push, 21, none, .mkSl 1 (.int .u8 (0)) 1 [(0, (.c (.int .u8 (69))))]⟩,
    ⟨.push, 22, none, .mov (.v 3)⟩,
    ⟨.push, 23, none, .call 26 [(.s 1), (.s 0)]⟩,
    ⟨.push, 24, none, .mov (.v 4)⟩,
    ⟨.push, 25, none, .call 26 [(.s 1), (.s 0)]⟩,
    ⟨.var 5, 6, none, .mov (.s 0)⟩])
 (.seq (.region false [
    ⟨.push, 26, none, .mov (.v 5)⟩,
    ⟨.push, 27, none, .mov (.v 0)⟩,
    ⟨.push, 28, none, .call 28 [(.s 0)]⟩,
    ⟨.push, 29, none, .call 27 [(.s 2), (.s 0)]⟩,
    ⟨.var 5, 6, none, .mov (.s 0)⟩])
 (.seq (.region false [
    ⟨.var 6, 7, none, .mov (.c (.int .i64 (0)))⟩,
    ⟨.var 7, 8, none, .mov (.c (.int .i64 (0)))⟩])
 (.seq (.seq (.region false [
     ⟨.var 11, 30, none, .mov (.v 0)⟩,
     ⟨.var 12, 31, none, .len false (.v 11)⟩,
     ⟨.var 13, 32, none, .mov (.c (.int .i64 (0)))⟩])
  (.block 0 (.loop ir8_k0 ir8_o0 ir8_r0 ir8_b0)))
 (.seq (.region false [
    ⟨.push, 74, none, .mov (.v 5)⟩,
    ⟨.push, 75, none, .call 31 [(.s 0)]⟩,
    ⟨.var 1, 2, none, .mov (.s 0)⟩,
    ⟨.var 2, 3, none, .mov (.c (.int .i64 (0)))⟩])
 (.ret)))))))), [.t 1, .t 2]⟩
noncomputable def pk_impl_PackEstimates_23 : Ctr := (pickC 1 24 c_impl_namesOf__impl_starOf c_impl_namesOf__impl_observerOf)
theorem s_pk_impl_PackEstimates_23 : Sound Try.prog 23 pk_impl_PackEstimates_23 := (pickC_sound s_impl_namesOf__impl_starOf s_impl_namesOf__impl_observerOf rfl rfl)
theorem M_pk_impl_PackEstimates_23 : pk_impl_PackEstimates_23.modes = [.bor, .bor] := rfl
theorem Fl_pk_impl_PackEstimates_23 : pk_impl_PackEstimates_23.flat = true := rfl
attribute [go_sem] M_pk_impl_PackEstimates_23 Fl_pk_impl_PackEstimates_23
theorem qpk_impl_PackEstimates_23_impl_namesOf__impl_starOf {list : List Estimate} : pk_impl_PackEstimates_23.F [.sl 5 (List.map Estimate_av list), .fn (.func 24) [] []] = c_impl_namesOf__impl_starOf.F [.sl 5 (List.map Estimate_av list), .fn (.func 24) [] []] := rfl
attribute [go_sem] qpk_impl_PackEstimates_23_impl_namesOf__impl_starOf
theorem qpk_impl_PackEstimates_23_impl_namesOf__impl_observerOf {list : List Estimate} : pk_impl_PackEstimates_23.F [.sl 5 (List.map Estimate_av list), .fn (.func 25) [] []] = c_impl_namesOf__impl_observerOf.F [.sl 5 (List.map Estimate_av list), .fn (.func 25) [] []] := rfl
attribute [go_sem] qpk_impl_PackEstimates_23_impl_namesOf__impl_observerOf
noncomputable def t_impl_PackEstimates : List (Nat × Ctr) := [(22, c_impl_ValidEstimates), (23, pk_impl_PackEstimates_23), (26, c_impl_appendNames), (28, c_impl_count_impl_Estimate), (27, c_impl_appendNumber), (29, c_impl_placeOf), (30, c_impl_fold), (31, c_impl_sealed)]
theorem lk_impl_PackEstimates_22 : look t_impl_PackEstimates 22 = some c_impl_ValidEstimates := rfl
theorem lk_impl_PackEstimates_23 : look t_impl_PackEstimates 23 = some pk_impl_PackEstimates_23 := rfl
theorem lk_impl_PackEstimates_26 : look t_impl_PackEstimates 26 = some c_impl_appendNames := rfl
theorem lk_impl_PackEstimates_28 : look t_impl_PackEstimates 28 = some c_impl_count_impl_Estimate := rfl
theorem lk_impl_PackEstimates_27 : look t_impl_PackEstimates 27 = some c_impl_appendNumber := rfl
theorem lk_impl_PackEstimates_29 : look t_impl_PackEstimates 29 = some c_impl_placeOf := rfl
theorem lk_impl_PackEstimates_30 : look t_impl_PackEstimates 30 = some c_impl_fold := rfl
theorem lk_impl_PackEstimates_31 : look t_impl_PackEstimates 31 = some c_impl_sealed := rfl
noncomputable def c_impl_PackEstimates : Ctr := mkF t_impl_PackEstimates ir8 [.bor]
theorem s_impl_PackEstimates : Sound Try.prog 8 c_impl_PackEstimates := mkF_sound _ rfl (snd_cons s_impl_ValidEstimates (snd_cons s_pk_impl_PackEstimates_23 (snd_cons s_impl_appendNames (snd_cons s_impl_count_impl_Estimate (snd_cons s_impl_appendNumber (snd_cons s_impl_placeOf (snd_cons s_impl_fold (snd_cons s_impl_sealed snd_nil)))))))) (by kernel_rfl : chkFn Try.prog 8 ir8 ir8_v = true)
theorem M_impl_PackEstimates : c_impl_PackEstimates.modes = [.bor] := rfl
theorem Fl_impl_PackEstimates : c_impl_PackEstimates.flat = true := rfl
attribute [go_sem] M_impl_PackEstimates Fl_impl_PackEstimates
attribute [go_sem] lk_impl_PackEstimates_22 lk_impl_PackEstimates_23 lk_impl_PackEstimates_26 lk_impl_PackEstimates_28 lk_impl_PackEstimates_27 lk_impl_PackEstimates_29 lk_impl_PackEstimates_30 lk_impl_PackEstimates_31
def E_impl_PackEstimates_l2 (stars : List (List UInt8)) (observers : List (List UInt8)) (e_ : Estimate) (t30 : List Estimate) (t31 : Int) (t32 : Int) (t59 : List Int) (t60 : Int) : ((List UInt8) × Int) → St
  | (b, t61) => ⟨[.any, .any, .any, .own 3200000, .own 3200032, .own 3200064, .any, .any, .ref 3200096 0 0, .any, .any, .sl 5 (List.map Estimate_av t30), .int .i64 t31, .int .i64 t32, .any, .own 3200128, .int .i64 t60, .int .i64 t61, .any], [], [(3200000, ⟨1, List.map AV.str stars⟩), (3200032, ⟨1, List.map AV.str observers⟩), (3200064, ⟨1, List.map byteAV b⟩), (3200096, ⟨5, [Estimate_av e_]⟩), (3200128, ⟨1, List.map (AV.int .i64) t59⟩)], true⟩
def R_impl_PackEstimates_l2 (stars : List (List UInt8)) (observers : List (List UInt8)) (e_ : Estimate) (t30 : List Estimate) (t31 : Int) (t32 : Int) (t59 : List Int) (t60 : Int) (y : (List UInt8)) : Res := (.exit 2, ⟨[.any, .any, .any, .own 3200000, .own 3200032, .own 3200064, .any, .any, .ref 3200096 0 0, .any, .any, .sl 5 (List.map Estimate_av t30), .int .i64 t31, .int .i64 t32, .any, .any, .any, .any, .any], [], [(3200000, ⟨1, List.map AV.str stars⟩), (3200032, ⟨1, List.map AV.str observers⟩), (3200064, ⟨1, List.map byteAV y⟩), (3200096, ⟨5, [Estimate_av e_]⟩)], true⟩)
theorem impl_PackEstimates_l2_ex {stars : List (List UInt8)} {observers : List (List UInt8)} {e_ : Estimate} {t30 : List Estimate} {t31 : Int} {t32 : Int} {t59 : List Int} {t60 : Int} {sgm_ : (List UInt8) × Int} {rho_ : (List UInt8)} (h : whileE (impl_PackEstimates_l2 stars observers e_ t30 t31 t32 t59 t60) sgm_ = some rho_) : ∃ L0, ∀ L, L0 ≤ L → iter (exec (look t_impl_PackEstimates) L ir8_b1) ir8_k1 ir8_o1 ir8_r1 L (E_impl_PackEstimates_l2 stars observers e_ t30 t31 t32 t59 t60 sgm_) = R_impl_PackEstimates_l2 stars observers e_ t30 t31 t32 t59 t60 rho_ := by
  refine loop_ex (E := E_impl_PackEstimates_l2 stars observers e_ t30 t31 t32 t59 t60) (R := R_impl_PackEstimates_l2 stars observers e_ t30 t31 t32 t59 t60) (fun y => by first | (intro c; cases c) | (rcases y with y | y <;> (intro c; cases c)) | (rcases y with y | y | y <;> (intro c; cases c))) ?_ h
  clear h
  rintro ⟨b, t61⟩ o_ h
  dsimp only [impl_PackEstimates_l2] at h
  rcases it_some h with ⟨hk15, h⟩ | ⟨hk15, h⟩
  · try simp only [go_sem, n1, n2, n3, n4] at hk15
    all_goals
    obtain ⟨hk16, h⟩ := ck_some h
    have lhk16 := ix_lt hk16
    have xhk16 := getD_mapD (AV.int .i64) t59 lhk16
    try simp only [go_sem] at lhk16
    try simp only [go_sem] at xhk16
    try simp only [go_sem, n1, n2, n3, n4, hk15] at hk16
    all_goals
    obtain ⟨y_17, hk17, h⟩ := bd_some h
    have fhk17 := Fs_impl_appendNumber hk17
    try simp only [go_sem, hk15, hk16] at fhk17
    obtain rfl := so_some h
    refine ⟨0, fun L hL => ?_⟩
    simp only [go_sem, ir8, E_impl_PackEstimates_l2, R_impl_PackEstimates_l2, ir8_b1, ir8_k1, ir8_o1, ir8_r1, hk15, hk16, lhk16, xhk16, fhk17]
  · try simp only [go_sem, n1, n2, n3, n4] at hk15
    all_goals
    obtain rfl := so_some h
    refine ⟨0, fun L hL => ?_⟩
    simp only [go_sem, ir8, E_impl_PackEstimates_l2, R_impl_PackEstimates_l2, ir8_b1, ir8_k1, ir8_o1, ir8_r1, hk15]

def E_impl_PackEstimates_l3 (stars : List (List UInt8)) (observers : List (List UInt8)) (e_ : Estimate) (t30 : List Estimate) (t31 : Int) (t32 : Int) (t59 : List Int) (t60 : Int) : ((List UInt8) × Int) → St
  | (b, t61) => ⟨[.any, .any, .any, .own 3200000, .own 3200032, .own 3200064, .any, .any, .ref 3200096 0 0, .any, .any, .sl 5 (List.map Estimate_av t30), .int .i64 t31, .int .i64 t32, .any, .own 3200128, .int .i64 t60, .int .i64 t61, .any], [], [(3200000, ⟨1, List.map AV.str stars⟩), (3200032, ⟨1, List.map AV.str observers⟩), (3200064, ⟨1, List.map byteAV b⟩), (3200096, ⟨5, [Estimate_av e_]⟩), (3200128, ⟨1, List.map (AV.int .i64) t59⟩)], true⟩
def R_impl_PackEstimates_l3 (stars : List (List UInt8)) (observers : List (List UInt8)) (e_ : Estimate) (t30 : List Estimate) (t31 : Int) (t32 : Int) (t59 : List Int) (t60 : Int) (y : (List UInt8)) : Res := (.exit 2, ⟨[.any, .any, .any, .own 3200000, .own 3200032, .own 3200064, .any, .any, .ref 3200096 0 0, .any, .any, .sl 5 (List.map Estimate_av t30), .int .i64 t31, .int .i64 t32, .any, .any, .any, .any, .any], [], [(3200000, ⟨1, List.map AV.str stars⟩), (3200032, ⟨1, List.map AV.str observers⟩), (3200064, ⟨1, List.map byteAV y⟩), (3200096, ⟨5, [Estimate_av e_]⟩)], true⟩)
theorem impl_PackEstimates_l3_ex {stars : List (List UInt8)} {observers : List (List UInt8)} {e_ : Estimate} {t30 : List Estimate} {t31 : Int} {t32 : Int} {t59 : List Int} {t60 : Int} {sgm_ : (List UInt8) × Int} {rho_ : (List UInt8)} (h : whileE (impl_PackEstimates_l3 stars observers e_ t30 t31 t32 t59 t60) sgm_ = some rho_) : ∃ L0, ∀ L, L0 ≤ L → iter (exec (look t_impl_PackEstimates) L ir8_b1) ir8_k1 ir8_o1 ir8_r1 L (E_impl_PackEstimates_l3 stars observers e_ t30 t31 t32 t59 t60 sgm_) = R_impl_PackEstimates_l3 stars observers e_ t30 t31 t32 t59 t60 rho_ := by
  refine loop_ex (E := E_impl_PackEstimates_l3 stars observers e_ t30 t31 t32 t59 t60) (R := R_impl_PackEstimates_l3 stars observers e_ t30 t31 t32 t59 t60) (fun y => by first | (intro c; cases c) | (rcases y with y | y <;> (intro c; cases c)) | (rcases y with y | y | y <;> (intro c; cases c))) ?_ h
  clear h
  rintro ⟨b, t61⟩ o_ h
  dsimp only [impl_PackEstimates_l3] at h
  rcases it_some h with ⟨hk21, h⟩ | ⟨hk21, h⟩
  · try simp only [go_sem, n1, n2, n3, n4] at hk21
    all_goals
    obtain ⟨hk22, h⟩ := ck_some h
    have lhk22 := ix_lt hk22
    have xhk22 := getD_mapD (AV.int .i64) t59 lhk22
    try simp only [go_sem] at lhk22
    try simp only [go_sem] at xhk22
    try simp only [go_sem, n1, n2, n3, n4, hk21] at hk22
    all_goals
    obtain ⟨y_23, hk23, h⟩ := bd_some h
    have fhk23 := Fs_impl_appendNumber hk23
    try simp only [go_sem, hk21, hk22] at fhk23
    obtain rfl := so_some h
    refine ⟨0, fun L hL => ?_⟩
    simp only [go_sem, ir8, E_impl_PackEstimates_l3, R_impl_PackEstimates_l3, ir8_b1, ir8_k1, ir8_o1, ir8_r1, E_impl_PackEstimates_l2, R_impl_PackEstimates_l2, ir8_k1, ir8_o1, ir8_r1, hk21, hk22, lhk22, xhk22, fhk23]
  · try simp only [go_sem, n1, n2, n3, n4] at hk21
    all_goals
    obtain rfl := so_some h
    refine ⟨0, fun L hL => ?_⟩
    simp only [go_sem, ir8, E_impl_PackEstimates_l3, R_impl_PackEstimates_l3, ir8_b1, ir8_k1, ir8_o1, ir8_r1, E_impl_PackEstimates_l2, R_impl_PackEstimates_l2, ir8_k1, ir8_o1, ir8_r1, hk21]

def E_impl_PackEstimates_l1 (stars : List (List UInt8)) (observers : List (List UInt8)) (t30 : List Estimate) (t31 : Int) : ((List UInt8) × Int × Int × Int) → St
  | (b, time, mag, t32) => ⟨[.any, .any, .any, .own 3200000, .own 3200032, .own 3200064, .int .i64 time, .int .i64 mag, .any, .any, .any, .sl 5 (List.map Estimate_av t30), .int .i64 t31, .int .i64 t32, .any, .any, .any, .any, .any], [], [(3200000, ⟨1, List.map AV.str stars⟩), (3200032, ⟨1, List.map AV.str observers⟩), (3200064, ⟨1, List.map byteAV b⟩)], true⟩
def R_impl_PackEstimates_l1 (stars : List (List UInt8)) (observers : List (List UInt8)) (t30 : List Estimate) (t31 : Int) (y : (List UInt8)) : Res := (.exit 0, ⟨[.any, .any, .any, .any, .any, .own 3200000, .any, .any, .any, .any, .any, .any, .any, .any, .any, .any, .any, .any, .any], [], [(3200000, ⟨1, List.map byteAV y⟩)], true⟩)
theorem impl_PackEstimates_l1_ex {stars : List (List UInt8)} {observers : List (List UInt8)} {t30 : List Estimate} {t31 : Int} {sgm_ : (List UInt8) × Int × Int × Int} {rho_ : (List UInt8)} (h : whileE (impl_PackEstimates_l1 stars observers t30 t31) sgm_ = some rho_) : ∃ L0, ∀ L, L0 ≤ L → iter (exec (look t_impl_PackEstimates) L ir8_b0) ir8_k0 ir8_o0 ir8_r0 L (E_impl_PackEstimates_l1 stars observers t30 t31 sgm_) = R_impl_PackEstimates_l1 stars observers t30 t31 rho_ := by
  refine loop_ex (E := E_impl_PackEstimates_l1 stars observers t30 t31) (R := R_impl_PackEstimates_l1 stars observers t30 t31) (fun y => by first | (intro c; cases c) | (rcases y with y | y <;> (intro c; cases c)) | (rcases y with y | y | y <;> (intro c; cases c))) ?_ h
  clear h
  rintro ⟨b, time, mag, t32⟩ o_ h
  dsimp only [impl_PackEstimates_l1] at h
  rcases it_some h with ⟨hk9, h⟩ | ⟨hk9, h⟩
  · try simp only [go_sem, n1, n2, n3, n4] at hk9
    all_goals
    obtain ⟨hk10, h⟩ := ck_some h
    have lhk10 := ix_lt hk10
    have xhk10 := getD_mapD Estimate_av t30 lhk10
    try simp only [go_sem] at lhk10
    try simp only [go_sem] at xhk10
    try simp only [go_sem, n1, n2, n3, n4, hk9] at hk10
    all_goals
    obtain ⟨y_11, hk11, h⟩ := bd_some h
    have fhk11 := Fs_impl_placeOf hk11
    try simp only [go_sem, hk9, hk10] at fhk11
    rcases it_some h with ⟨hk12, h⟩ | ⟨hk12, h⟩
    · try simp only [go_sem, n1, n2, n3, n4, hk9, hk10] at hk12
      all_goals
      obtain ⟨y_13, hk13, h⟩ := bd_some h
      have fhk13 := Fs_impl_placeOf hk13
      try simp only [go_sem, hk9, hk10, hk12] at fhk13
      obtain ⟨y_14, hk14, h⟩ := bd_some h
      have fhk14 := Fs_impl_fold hk14
      try simp only [go_sem, hk9, hk10, hk12] at fhk14
      obtain ⟨y_18, hk18, h⟩ := bd_some h
      obtain ⟨Lhk18, ehk18⟩ := impl_PackEstimates_l2_ex hk18
      obtain rfl := so_some h
      refine ⟨Lhk18, fun L hL => ?_⟩
      have ehk18 := ehk18 L (by omega)
      try simp only [go_sem, E_impl_PackEstimates_l1, R_impl_PackEstimates_l1, ir8_b0, ir8_k0, ir8_o0, ir8_r0, E_impl_PackEstimates_l2, R_impl_PackEstimates_l2, ir8_k1, ir8_o1, ir8_r1, E_impl_PackEstimates_l3, R_impl_PackEstimates_l3, ir8_k1, ir8_o1, ir8_r1, hk9, hk10, hk12] at ehk18
      simp only [go_sem, ir8, E_impl_PackEstimates_l1, R_impl_PackEstimates_l1, ir8_b0, ir8_k0, ir8_o0, ir8_r0, E_impl_PackEstimates_l2, R_impl_PackEstimates_l2, ir8_k1, ir8_o1, ir8_r1, E_impl_PackEstimates_l3, R_impl_PackEstimates_l3, ir8_k1, ir8_o1, ir8_r1, hk9, hk10, lhk10, xhk10, fhk11, hk12, fhk13, fhk14, ehk18]
    · try simp only [go_sem, n1, n2, n3, n4, hk9, hk10] at hk12
      all_goals
      obtain ⟨y_19, hk19, h⟩ := bd_some h
      have fhk19 := Fs_impl_placeOf hk19
      try simp only [go_sem, hk9, hk10, hk12] at fhk19
      obtain ⟨y_20, hk20, h⟩ := bd_some h
      have fhk20 := Fs_impl_fold hk20
      try simp only [go_sem, hk9, hk10, hk12] at fhk20
      obtain ⟨y_24, hk24, h⟩ := bd_some h
      obtain ⟨Lhk24, ehk24⟩ := impl_PackEstimates_l3_ex hk24
      obtain rfl := so_some h
      refine ⟨Lhk24, fun L hL => ?_⟩
      have ehk24 := ehk24 L (by omega)
      try simp only [go_sem, E_impl_PackEstimates_l1, R_impl_PackEstimates_l1, ir8_b0, ir8_k0, ir8_o0, ir8_r0, E_impl_PackEstimates_l2, R_impl_PackEstimates_l2, ir8_k1, ir8_o1, ir8_r1, E_impl_PackEstimates_l3, R_impl_PackEstimates_l3, ir8_k1, ir8_o1, ir8_r1, hk9, hk10, hk12] at ehk24
      simp only [go_sem, ir8, E_impl_PackEstimates_l1, R_impl_PackEstimates_l1, ir8_b0, ir8_k0, ir8_o0, ir8_r0, E_impl_PackEstimates_l2, R_impl_PackEstimates_l2, ir8_k1, ir8_o1, ir8_r1, E_impl_PackEstimates_l3, R_impl_PackEstimates_l3, ir8_k1, ir8_o1, ir8_r1, hk9, hk10, lhk10, xhk10, fhk11, hk12, fhk19, fhk20, ehk24]
  · try simp only [go_sem, n1, n2, n3, n4] at hk9
    all_goals
    obtain rfl := so_some h
    refine ⟨0, fun L hL => ?_⟩
    simp only [go_sem, ir8, E_impl_PackEstimates_l1, R_impl_PackEstimates_l1, ir8_b0, ir8_k0, ir8_o0, ir8_r0, E_impl_PackEstimates_l2, R_impl_PackEstimates_l2, ir8_k1, ir8_o1, ir8_r1, E_impl_PackEstimates_l3, R_impl_PackEstimates_l3, ir8_k1, ir8_o1, ir8_r1, hk9]

theorem Fs_impl_PackEstimates {list : List Estimate} {y_ : (List UInt8) × Int} (h : impl_PackEstimates list = some y_) : c_impl_PackEstimates.F [.sl 5 (List.map Estimate_av list)] = ⟨true, .tup [.fresh 1 (List.map byteAV y_.1), .int .i64 y_.2], [.any]⟩ := by
  refine mkF_E (by simp only [flatA, flatB, flat1, List.all_cons, List.all_nil, Bool.and_self, flatE_map (f := byteAV) (fun _ => rfl)]) ?_
  dsimp only [impl_PackEstimates] at h
  obtain ⟨y_1, hk1, h⟩ := bd_some h
  have fhk1 := Fs_impl_ValidEstimates hk1
  try simp only [go_sem] at fhk1
  rcases it_some h with ⟨hk2, h⟩ | ⟨hk2, h⟩
  · try simp only [go_sem, n1, n2, n3, n4] at hk2
    all_goals
    obtain rfl := so_some h
    refine ⟨0, fun L hL => ?_⟩
    simp only [go_sem, ir8, E_impl_PackEstimates_l2, R_impl_PackEstimates_l2, ir8_k1, ir8_o1, ir8_r1, E_impl_PackEstimates_l3, R_impl_PackEstimates_l3, ir8_k1, ir8_o1, ir8_r1, E_impl_PackEstimates_l1, R_impl_PackEstimates_l1, ir8_k0, ir8_o0, ir8_r0, fhk1, hk2]
  · try simp only [go_sem, n1, n2, n3, n4] at hk2
    all_goals
    obtain ⟨y_3, hk3, h⟩ := bd_some h
    have fhk3 := Fs_impl_namesOf__impl_starOf hk3
    try simp only [go_sem, hk2] at fhk3
    obtain ⟨y_4, hk4, h⟩ := bd_some h
    have fhk4 := Fs_impl_namesOf__impl_observerOf hk4
    try simp only [go_sem, hk2] at fhk4
    obtain ⟨y_5, hk5, h⟩ := bd_some h
    have fhk5 := Fs_impl_appendNames hk5
    try simp only [go_sem, hk2] at fhk5
    obtain ⟨y_6, hk6, h⟩ := bd_some h
    have fhk6 := Fs_impl_appendNames hk6
    try simp only [go_sem, hk2] at fhk6
    obtain ⟨y_7, hk7, h⟩ := bd_some h
    have fhk7 := Fs_impl_count_impl_Estimate hk7
    try simp only [go_sem, hk2] at fhk7
    obtain ⟨y_8, hk8, h⟩ := bd_some h
    have fhk8 := Fs_impl_appendNumber hk8
    try simp only [go_sem, hk2] at fhk8
    obtain ⟨y_25, hk25, h⟩ := bd_some h
    obtain ⟨Lhk25, ehk25⟩ := impl_PackEstimates_l1_ex hk25
    obtain ⟨y_26, hk26, h⟩ := bd_some h
    have fhk26 := Fs_impl_sealed hk26
    try simp only [go_sem, hk2] at fhk26
    obtain rfl := so_some h
    refine ⟨Lhk25, fun L hL => ?_⟩
    have ehk25 := ehk25 L (by omega)
    try simp only [go_sem, E_impl_PackEstimates_l2, R_impl_PackEstimates_l2, ir8_k1, ir8_o1, ir8_r1, E_impl_PackEstimates_l3, R_impl_PackEstimates_l3, ir8_k1, ir8_o1, ir8_r1, E_impl_PackEstimates_l1, R_impl_PackEstimates_l1, ir8_k0, ir8_o0, ir8_r0, hk2] at ehk25
    simp only [go_sem, ir8, E_impl_PackEstimates_l2, R_impl_PackEstimates_l2, ir8_k1, ir8_o1, ir8_r1, E_impl_PackEstimates_l3, R_impl_PackEstimates_l3, ir8_k1, ir8_o1, ir8_r1, E_impl_PackEstimates_l1, R_impl_PackEstimates_l1, ir8_k0, ir8_o0, ir8_r0, fhk1, hk2, fhk3, fhk4, fhk5, fhk6, fhk7, fhk8, fhk26, ehk25]


def ir42_v : List Nat := [0, 1, 4]
def ir42 : AFn := ⟨2, 3, .seq (.region false [
    ⟨.var 2, 4, none, .mov (.c (.bool false))⟩])
 (.seq (.region false [
    ⟨.push, 5, none, .mov (.v 0)⟩,
    ⟨.push, 6, none, .b2s (.s 0)⟩,
    ⟨.push, 7, none, .mov (.v 1)⟩,
    ⟨.push, 8, none, .b2s (.s 0)⟩,
    ⟨.push, 9, none, .bin false .eql (.s 2) (.s 0)⟩,
    ⟨.var 2, 4, none, .mov (.s 0)⟩])
 (.ret)), [.t 2]⟩
noncomputable def t_bytes_Equal : List (Nat × Ctr) := []
noncomputable def c_bytes_Equal : Ctr := mkF t_bytes_Equal ir42 [.bor, .bor]
theorem s_bytes_Equal : Sound Try.prog 42 c_bytes_Equal := mkF_sound _ rfl snd_nil (by kernel_rfl : chkFn Try.prog 42 ir42 ir42_v = true)
theorem M_bytes_Equal : c_bytes_Equal.modes = [.bor, .bor] := rfl
theorem Fl_bytes_Equal : c_bytes_Equal.flat = true := rfl
attribute [go_sem] M_bytes_Equal Fl_bytes_Equal
theorem Fs_bytes_Equal {a : List UInt8} {b : List UInt8} {y_ : Bool} (h : bytes_Equal a b = some y_) : c_bytes_Equal.F [.sl 1 (List.map byteAV a), .sl 1 (List.map byteAV b)] = ⟨true, .bool y_, [.any, .any]⟩ := by
  refine mkF_E rfl ?_
  dsimp only [bytes_Equal] at h
  obtain rfl := so_some h
  refine ⟨0, fun L hL => ?_⟩
  simp only [go_sem, ir42]


def ir16_b0 : IR := .seq (.region false [
    ⟨.var 16, 35, none, .bin false .lss (.v 15) (.v 14)⟩])
 (.seq (.cond (.v 16) (.skip)
  (.exit 0))
 (.seq (.block 1 (.seq (.region false [
      ⟨.push, 36, none, .mov (.v 8)⟩,
      ⟨.push, 37, none, .mov (.v 4)⟩,
      ⟨.push, 38, none, .call 39 [(.s 0), (.c (.int .i64 (10000000)))]⟩,
      ⟨.push, 39, none, .bin false .add (.s 2) (.s 0)⟩,
      ⟨.var 8, 9, none, .mov (.s 0)⟩])
   (.seq (.region false [
      ⟨.push, 40, none, .mov (.v 4)⟩,
      ⟨.push, 41, none, .mov (.v 5)⟩,
      ⟨.push, 42, none, .call 40 [(.s 0)]⟩,
      ⟨.push, 43, none, .bin false .sub (.s 0) (.c (.int .i64 (1)))⟩,
      ⟨.push, 44, none, .call 39 [(.s 3), (.s 0)]⟩,
      ⟨.push, 45, none, .mov (.v 4)⟩,
      ⟨.push, 46, none, .mov (.v 6)⟩,
      ⟨.push, 47, none, .call 40 [(.s 0)]⟩,
      ⟨.push, 48, none, .bin false .mul (.c (.int .i64 (2))) (.s 0)⟩,
      ⟨.push, 49, none, .bin false .sub (.s 0) (.c (.int .i64 (1)))⟩,
      ⟨.push, 50, none, .call 39 [(.s 4), (.s 0)]⟩,
      ⟨.var 10, 11, none, .mov (.s 6)⟩,
      ⟨.var 11, 12, none, .mov (.s 0)⟩])
   (.seq (.region false [
      ⟨.push, 51, none, .mov (.v 9)⟩,
      ⟨.push, 52, none, .mov (.v 4)⟩,
      ⟨.push, 53, none, .call 39 [(.s 0), (.c (.int .i64 (44000)))]⟩,
      ⟨.push, 54, none, .call 41 [(.s 0)]⟩,
      ⟨.push, 55, none, .bin false .add (.s 3) (.s 0)⟩,
      ⟨.var 9, 10, none, .mov (.s 0)⟩])
   (.seq (.test false [
      ⟨.push, 56, none, .mov (.v 4)⟩,
      ⟨.push, 57, none, .nilck (.s 0)⟩,
      ⟨.push, 58, none, .fldAddr 1 (.s 0)⟩,
      ⟨.push, 59, none, .load false 1 (.s 0)⟩] (.s 0)
    (.seq (.region false [
        ⟨.var 1, 2, none, .newnil 5⟩,
        ⟨.var 2, 3, none, .mov (.c (.int .i64 (8)))⟩])
     (.ret))
    (.skip))
   (.anyo 18 [
     ⟨.slot 0, 60, none, .mov (.v 7)⟩,
     ⟨.slot 1, 61, none, .mov (.v 8)⟩,
     ⟨.slot 2, 62, none, .mov (.v 5)⟩,
     ⟨.slot 3, 63, none, .mov (.v 10)⟩,
     ⟨.slot 4, 64, none, .ixAddr 1 (.s 2) (.s 3)⟩,
     ⟨.slot 5, 65, none, .load false 1 (.s 4)⟩,
     ⟨.slot 6, 66, none, .mov (.v 6)⟩,
     ⟨.slot 7, 67, none, .mov (.v 11)⟩,
     ⟨.slot 8, 68, none, .bin false .quo (.s 7) (.c (.int .i64 (2)))⟩,
     ⟨.slot 9, 69, none, .ixAddr 1 (.s 6) (.s 8)⟩,
     ⟨.slot 10, 70, none, .load false 1 (.s 9)⟩,
     ⟨.slot 11, 71, none, .mov (.v 9)⟩,
     ⟨.slot 12, 72, none, .mov (.v 11)⟩,
     ⟨.slot 13, 73, none, .bin false .rem (.s 12) (.c (.int .i64 (2)))⟩,
     ⟨.slot 14, 74, none, .bin false .eql (.s 13) (.c (.int .i64 (1)))⟩,
     ⟨.slot 15, 75, none, .pur (.build [.int .i64 (0), .str [], .str [], .int .i64 (0), .bool false] [(0, 1, (.s 1)), (1, 1, (.s 5)), (2, 1, (.s 10)), (3, 1, (.s 11)), (4, 1, (.s 14))])⟩,
     ⟨.slot 16, 76, none, .pur (.mkSl 5 (.agg [.int .i64 (0), .str [], .str [], .int .i64 (0), .bool false]) 1 [(0, (.s 15))])⟩,
     ⟨.slot 17, 77, none, .app 5 56 (.agg [.int .i64 (0), .str [], .str [], .int .i64 (0), .bool false]) (.s 0) (.s 16)⟩,
     ⟨.var 7, 8, none, .mov (.s 17)⟩] [] .skip))))))
 (.region false [
   ⟨.push, 78, none, .bin false .add (.v 15) (.c (.int .i64 (1)))⟩,
   ⟨.var 15, 34, none, .mov (.s 0)⟩])))
def ir16_k0 : List Bool := [true, false, false, false, true, true, true, true, true, true, false, false, false, false, true, true, false]
def ir16_o0 : List Bool := [true, false, false, false, true, false, false, true, false, false, false, false, false, false, false, false, false]
def ir16_r0 : List Bool := [false, true, true, false, false, false, false, false, false, false, false, false, false, false, false, false, false]
def ir16_v : List Nat := [0, 2, 3, 4, 5, 6, 7, 8, 9, 10, 11, 12, 13, 14, 33, 34, 35]
def ir16 : AFn := ⟨1, 17, .seq (.region false [
    ⟨.var 1, 2, none, .newnil 5⟩,
    ⟨.var 2, 3, none, .mov (.c (.int .i64 (0)))⟩])
 (.seq (.seq (.region false [
     ⟨.push, 15, none, .mov (.v 0)⟩,
     ⟨.push, 16, none, .call 36 [(.s 0), (.c (.fn (.func 37) [] []))]⟩,
     ⟨.var 3, 4, none, .mov (.s 0)⟩])
  (.test false [
    ⟨.push, 17, none, .mov (.v 3)⟩,
    ⟨.push, 18, none, .bin false .neq (.s 0) (.c (.int .i64 (0)))⟩] (.s 0)
  (.seq (.region false [
      ⟨.push, 19, none, .mov (.v 3)⟩,
      ⟨.var 1, 2, none, .newnil 5⟩,
      ⟨.var 2, 3, none, .mov (.s 0)⟩])
   (.ret))
  (.skip)))
 (.seq (.region false [
    ⟨.push, 20, none, .mov (.v 0)⟩,
    ⟨.push, 21, none, .mov (.v 0)⟩,
    ⟨.push, 22, none, .len false (.s 0)⟩,
    ⟨.push, 23, none, .bin false .sub (.s 0) (.c (.int .i64 (2)))⟩,
    ⟨.push, 24, none, .slice 1 (.s 3) (some (.c (.int .i64 (1)))) (some (.s 0))⟩,
    ⟨.push, 25, none, .build [.sl 1 [], .bool false] [(0, 1, (.s 0))]⟩,
    ⟨.push, 26, none, .box (.s 0)⟩,
    ⟨.var 4, 5, none, .mov (.s 0)⟩])
 (.seq (.region false [
    ⟨.push, 27, none, .mov (.v 4)⟩,
    ⟨.push, 28, none, .call 38 [(.s 0)]⟩,
    ⟨.push, 29, none, .mov (.v 4)⟩,
    ⟨.push, 30, none, .call 38 [(.s 0)]⟩,
    ⟨.var 5, 6, none, .mov (.s 2)⟩,
    ⟨.var 6, 7, none, .mov (.s 0)⟩])
 (.seq (.region false [
    ⟨.push, 31, none, .mkSl 5 (.agg [.int .i64 (0), .str [], .str [], .int .i64 (0), .bool false]) 0 []⟩,
    ⟨.var 7, 8, none, .mov (.s 0)⟩,
    ⟨.var 8, 9, none, .mov (.c (.int .i64 (0)))⟩,
    ⟨.var 9, 10, none, .mov (.c (.int .i64 (0)))⟩])
 (.seq (.seq (.region false [
     ⟨.push, 32, none, .mov (.v 4)⟩,
     ⟨.var 14, 33, none, .call 39 [(.s 0), (.c (.int .i64 (100)))]⟩,
     ⟨.var 15, 34, none, .mov (.c (.int .i64 (0)))⟩])
  (.block 0 (.loop ir16_k0 ir16_o0 ir16_r0 ir16_b0)))
 (.seq (.region false [
    ⟨.push, 80, none, .mov (.v 7)⟩,
    ⟨.push, 81, none, .call 8 [(.s 0)]⟩,
    ⟨.push, 79, none, .mov (.s 0)⟩,
    ⟨.push, 82, none, .ext (.s 0) 0⟩,
    ⟨.push, 83, none, .ext (.s 1) 1⟩,
    ⟨.var 12, 13, none, .mov (.s 1)⟩,
    ⟨.var 13, 14, none, .mov (.s 0)⟩])
 (.seq (.test false [
    ⟨.push, 84, none, .mov (.v 4)⟩,
    ⟨.push, 85, none, .nilck (.s 0)⟩,
    ⟨.push, 86, none, .fldAddr 1 (.s 0)⟩,
    ⟨.push, 87, none, .load false 1 (.s 0)⟩,
    ⟨.push, 88, none, .mov (.s 0)⟩,
    ⟨.push, 89, (some ((.s 0), false)), .mov (.v 13)⟩,
    ⟨.push, 90, (some ((.s 1), false)), .bin false .neq (.s 0) (.c (.int .i64 (0)))⟩,
    ⟨.push, 91, none, .pick (.s 2) (.c (.bool true)) (.s 0)⟩,
    ⟨.push, 92, none, .mov (.s 0)⟩,
    ⟨.push, 93, (some ((.s 0), false)), .mov (.v 12)⟩,
    ⟨.push, 94, (some ((.s 1), false)), .mov (.v 0)⟩,
    ⟨.push, 95, (some ((.s 2), false)), .call 42 [(.s 1), (.s 0)]⟩,
    ⟨.push, 96, (some ((.s 3), false)), .un .not (.s 0)⟩,
    ⟨.push, 97, none, .pick (.s 4) (.c (.bool true)) (.s 0)⟩] (.s 0)
  (.seq (.region false [
      ⟨.var 1, 2, none, .newnil 5⟩,
      ⟨.var 2, 3, none, .mov (.c (.int .i64 (8)))⟩])
   (.ret))
  (.skip))
 (.seq (.region false [
    ⟨.push, 98, none, .mov (.v 7)⟩,
    ⟨.var 1, 2, none, .mov (.s 0)⟩,
    ⟨.var 2, 3, none, .mov (.c (.int .i64 (0)))⟩])
 (.ret))))))))), [.t 1, .t 2]⟩
noncomputable def t_impl_UnpackEstimates : List (Nat × Ctr) := [(36, c_impl_checkPacked__impl_UnpackEstimates_c1), (38, c_impl_unpacker_names), (39, c_impl_unpacker_number), (40, c_impl_count_string), (41, c_impl_unfold), (8, c_impl_PackEstimates), (42, c_bytes_Equal)]
theorem lk_impl_UnpackEstimates_36 : look t_impl_UnpackEstimates 36 = some c_impl_checkPacked__impl_UnpackEstimates_c1 := rfl
theorem lk_impl_UnpackEstimates_38 : look t_impl_UnpackEstimates 38 = some c_impl_unpacker_names := rfl
theorem lk_impl_UnpackEstimates_39 : look t_impl_UnpackEstimates 39 = some c_impl_unpacker_number := rfl
theorem lk_impl_UnpackEstimates_40 : look t_impl_UnpackEstimates 40 = some c_impl_count_string := rfl
theorem lk_impl_UnpackEstimates_41 : look t_impl_UnpackEstimates 41 = some c_impl_unfold := rfl
theorem lk_impl_UnpackEstimates_8 : look t_impl_UnpackEstimates 8 = some c_impl_PackEstimates := rfl
theorem lk_impl_UnpackEstimates_42 : look t_impl_UnpackEstimates 42 = some c_bytes_Equal := rfl
noncomputable def c_impl_UnpackEstimates : Ctr := mkF t_impl_UnpackEstimates ir16 [.bor]
theorem s_impl_UnpackEstimates : Sound Try.prog 16 c_impl_UnpackEstimates := mkF_sound _ rfl (snd_cons s_impl_checkPacked__impl_UnpackEstimates_c1 (snd_cons s_impl_unpacker_names (snd_cons s_impl_unpacker_number (snd_cons s_impl_count_string (snd_cons s_impl_unfold (snd_cons s_impl_PackEstimates (snd_cons s_bytes_Equal snd_nil))))))) (by kernel_rfl : chkFn Try.prog 16 ir16 ir16_v = true)
theorem M_impl_UnpackEstimates : c_impl_UnpackEstimates.modes = [.bor] := rfl
theorem Fl_impl_UnpackEstimates : c_impl_UnpackEstimates.flat = true := rfl
attribute [go_sem] M_impl_UnpackEstimates Fl_impl_UnpackEstimates
attribute [go_sem] lk_impl_UnpackEstimates_36 lk_impl_UnpackEstimates_38 lk_impl_UnpackEstimates_39 lk_impl_UnpackEstimates_40 lk_impl_UnpackEstimates_41 lk_impl_UnpackEstimates_8 lk_impl_UnpackEstimates_42
def E_impl_UnpackEstimates_l1 (b : List UInt8) (stars : List (List UInt8)) (observers : List (List UInt8)) (t33 : Int) : (Unpacker × (List Estimate) × Int × Int × Int) → St
  | (u, list, time, mag, t34) => ⟨[.sl 1 (List.map byteAV b), .any, .any, .any, .ref 3200000 0 0, .own 3200032, .own 3200064, .own 3200096, .int .i64 time, .int .i64 mag, .any, .any, .any, .any, .int .i64 t33, .int .i64 t34, .any], [], [(3200000, ⟨2, [Unpacker_av u]⟩), (3200032, ⟨1, List.map AV.str stars⟩), (3200064, ⟨1, List.map AV.str observers⟩), (3200096, ⟨5, List.map Estimate_av list⟩)], true⟩
def R_impl_UnpackEstimates_l1 (b : List UInt8) (stars : List (List UInt8)) (observers : List (List UInt8)) (t33 : Int) : ((Unpacker × (List Estimate)) ⊕ ((List Estimate) × Int)) → Res
  | .inl y => (.exit 0, ⟨[.sl 1 (List.map byteAV b), .any, .any, .any, .ref 3200000 0 0, .any, .any, .own 3200032, .any, .any, .any, .any, .any, .any, .any, .any, .any], [], [(3200000, ⟨2, [Unpacker_av y.1]⟩), (3200032, ⟨5, List.map Estimate_av y.2⟩)], true⟩)
  | .inr y => (.ret, ⟨[.any, .own 3200000, .int .i64 y.2, .any, .any, .any, .any, .any, .any, .any, .any, .any, .any, .any, .any, .any, .any], [], [(3200000, ⟨5, List.map Estimate_av y.1⟩)], true⟩)
theorem impl_UnpackEstimates_l1_ex {b : List UInt8} {stars : List (List UInt8)} {observers : List (List UInt8)} {t33 : Int} {sgm_ : Unpacker × (List Estimate) × Int × Int × Int} {rho_ : (Unpacker × (List Estimate)) ⊕ ((List Estimate) × Int)} (h : whileE (impl_UnpackEstimates_l1 b stars observers t33) sgm_ = some rho_) : ∃ L0, ∀ L, L0 ≤ L → iter (exec (look t_impl_UnpackEstimates) L ir16_b0) ir16_k0 ir16_o0 ir16_r0 L (E_impl_UnpackEstimates_l1 b stars observers t33 sgm_) = R_impl_UnpackEstimates_l1 b stars observers t33 rho_ := by
  refine loop_ex (E := E_impl_UnpackEstimates_l1 b stars observers t33) (R := R_impl_UnpackEstimates_l1 b stars observers t33) (fun y => by first | (intro c; cases c) | (rcases y with y | y <;> (intro c; cases c)) | (rcases y with y | y | y <;> (intro c; cases c))) ?_ h
  clear h
  rintro ⟨u, list, time, mag, t34⟩ o_ h
  dsimp only [impl_UnpackEstimates_l1] at h
  rcases it_some h with ⟨hk7, h⟩ | ⟨hk7, h⟩
  · try simp only [go_sem, n1, n2, n3, n4] at hk7
    all_goals
    obtain ⟨y_8, hk8, h⟩ := bd_some h
    have fhk8 := Fs_impl_unpacker_number hk8
    try simp only [go_sem, hk7] at fhk8
    obtain ⟨y_9, hk9, h⟩ := bd_some h
    have fhk9 := Fs_impl_count_string hk9
    try simp only [go_sem, hk7] at fhk9
    obtain ⟨y_10, hk10, h⟩ := bd_some h
    have fhk10 := Fs_impl_unpacker_number hk10
    try simp only [go_sem, hk7] at fhk10
    obtain ⟨y_11, hk11, h⟩ := bd_some h
    have fhk11 := Fs_impl_count_string hk11
    try simp only [go_sem, hk7] at fhk11
    obtain ⟨y_12, hk12, h⟩ := bd_some h
    have fhk12 := Fs_impl_unpacker_number hk12
    try simp only [go_sem, hk7] at fhk12
    obtain ⟨y_13, hk13, h⟩ := bd_some h
    have fhk13 := Fs_impl_unpacker_number hk13
    try simp only [go_sem, hk7] at fhk13
    obtain ⟨y_14, hk14, h⟩ := bd_some h
    have fhk14 := Fs_impl_unfold hk14
    try simp only [go_sem, hk7] at fhk14
    rcases it_some h with ⟨hk15, h⟩ | ⟨hk15, h⟩
    · try simp only [go_sem, n1, n2, n3, n4, hk7] at hk15
      all_goals
      obtain rfl := so_some h
      refine ⟨0, fun L hL => ?_⟩
      simp only [go_sem, ir16, E_impl_UnpackEstimates_l1, R_impl_UnpackEstimates_l1, ir16_b0, ir16_k0, ir16_o0, ir16_r0, hk7, fhk8, fhk9, fhk10, fhk11, fhk12, fhk13, fhk14, hk15]
    · try simp only [go_sem, n1, n2, n3, n4, hk7] at hk15
      all_goals
      obtain ⟨hk16, h⟩ := ck_some h
      have lhk16 := ix_lt hk16
      have xhk16 := getD_mapD AV.str stars lhk16
      try simp only [go_sem] at lhk16
      try simp only [go_sem] at xhk16
      try simp only [go_sem, n1, n2, n3, n4, hk7, hk15] at hk16
      all_goals
      obtain ⟨hk17, h⟩ := ck_some h
      try simp only [go_sem, n1, n2, n3, n4, hk7, hk15, hk16] at hk17
      all_goals
      obtain ⟨hk18, h⟩ := ck_some h
      have lhk18 := ix_lt hk18
      have xhk18 := getD_mapD AV.str observers lhk18
      try simp only [go_sem] at lhk18
      try simp only [go_sem] at xhk18
      try simp only [go_sem, n1, n2, n3, n4, hk7, hk15, hk16, hk17] at hk18
      all_goals
      obtain ⟨hk19, h⟩ := ck_some h
      try simp only [go_sem, n1, n2, n3, n4, hk7, hk15, hk16, hk17, hk18] at hk19
      all_goals
      obtain rfl := so_some h
      refine ⟨0, fun L hL => ?_⟩
      simp only [go_sem, ir16, E_impl_UnpackEstimates_l1, R_impl_UnpackEstimates_l1, ir16_b0, ir16_k0, ir16_o0, ir16_r0, hk7, fhk8, fhk9, fhk10, fhk11, fhk12, fhk13, fhk14, hk15, hk16, lhk16, xhk16, hk17, hk18, lhk18, xhk18, hk19]
  · try simp only [go_sem, n1, n2, n3, n4] at hk7
    all_goals
    obtain rfl := so_some h
    refine ⟨0, fun L hL => ?_⟩
    simp only [go_sem, ir16, E_impl_UnpackEstimates_l1, R_impl_UnpackEstimates_l1, ir16_b0, ir16_k0, ir16_o0, ir16_r0, hk7]

theorem Fs_impl_UnpackEstimates {b : List UInt8} {y_ : (List Estimate) × Int} (h : impl_UnpackEstimates b = some y_) : c_impl_UnpackEstimates.F [.sl 1 (List.map byteAV b)] = ⟨true, .tup [.fresh 5 (List.map Estimate_av y_.1), .int .i64 y_.2], [.any]⟩ := by
  refine mkF_E (by simp only [flatA, flatB, flat1, List.all_cons, List.all_nil, Bool.and_self, flatE_map (f := Estimate_av) (fun _ => rfl)]) ?_
  dsimp only [impl_UnpackEstimates] at h
  obtain ⟨y_1, hk1, h⟩ := bd_some h
  have fhk1 := Fs_impl_checkPacked__impl_UnpackEstimates_c1 hk1
  try simp only [go_sem] at fhk1
  rcases it_some h with ⟨hk2, h⟩ | ⟨hk2, h⟩
  · try simp only [go_sem, n1, n2, n3, n4] at hk2
    all_goals
    obtain rfl := so_some h
    refine ⟨0, fun L hL => ?_⟩
    simp only [go_sem, ir16, E_impl_UnpackEstimates_l1, R_impl_UnpackEstimates_l1, ir16_k0, ir16_o0, ir16_r0, fhk1, hk2]
  · try simp only [go_sem, n1, n2, n3, n4] at hk2
    all_goals
    obtain ⟨hk3, h⟩ := ck_some h
    try simp only [go_sem, n1, n2, n3, n4, hk2] at hk3
    all_goals
    obtain ⟨y_4, hk4, h⟩ := bd_some h
    have fhk4 := Fs_impl_unpacker_names hk4
    try simp only [go_sem, hk2, hk3] at fhk4
    obtain ⟨y_5, hk5, h⟩ := bd_some h
    have fhk5 := Fs_impl_unpacker_names hk5
    try simp only [go_sem, hk2, hk3] at fhk5
    obtain ⟨y_6, hk6, h⟩ := bd_some h
    have fhk6 := Fs_impl_unpacker_number hk6
    try simp only [go_sem, hk2, hk3] at fhk6
    obtain ⟨y_20, hk20, h⟩ := bd_some h
    obtain ⟨Lhk20, ehk20⟩ := impl_UnpackEstimates_l1_ex hk20
    rcases y_20 with y_20a | y_20b
    · dsimp only at h
      obtain ⟨y_21, hk21, h⟩ := bd_some h
      have fhk21 := Fs_impl_PackEstimates hk21
      try simp only [go_sem, hk2, hk3] at fhk21
      obtain ⟨hk22, h⟩ := ck_some h
      rcases or_split hk22 with ⟨ghk22, hk22⟩ | ghk22
      · try simp only [go_sem, n1, n2, n3, n4, hk2, hk3] at ghk22
        all_goals
        obtain ⟨y_22, hhk22⟩ := Option.isSome_iff_exists.1 hk22
        have fhk22 := Fs_bytes_Equal hhk22
        try simp only [go_sem, hk2, hk3, ghk22] at fhk22
        rcases it_some h with ⟨hk23, h⟩ | ⟨hk23, h⟩
        · try simp only [go_sem, n1, n2, n3, n4, hk2, hk3, ghk22, hhk22] at hk23
          all_goals
          obtain rfl := so_some h
          refine ⟨Lhk20, fun L hL => ?_⟩
          have ehk20 := ehk20 L (by omega)
          try simp only [go_sem, E_impl_UnpackEstimates_l1, R_impl_UnpackEstimates_l1, ir16_k0, ir16_o0, ir16_r0, hk2, hk3, ghk22, hhk22, hk23] at ehk20
          simp only [go_sem, ir16, E_impl_UnpackEstimates_l1, R_impl_UnpackEstimates_l1, ir16_k0, ir16_o0, ir16_r0, fhk1, hk2, hk3, fhk4, fhk5, fhk6, fhk21, ghk22, hhk22, fhk22, hk23, ehk20]
        · try simp only [go_sem, n1, n2, n3, n4, hk2, hk3, ghk22, hhk22] at hk23
          all_goals
          obtain rfl := so_some h
          refine ⟨Lhk20, fun L hL => ?_⟩
          have ehk20 := ehk20 L (by omega)
          try simp only [go_sem, E_impl_UnpackEstimates_l1, R_impl_UnpackEstimates_l1, ir16_k0, ir16_o0, ir16_r0, hk2, hk3, ghk22, hhk22, hk23] at ehk20
          simp only [go_sem, ir16, E_impl_UnpackEstimates_l1, R_impl_UnpackEstimates_l1, ir16_k0, ir16_o0, ir16_r0, fhk1, hk2, hk3, fhk4, fhk5, fhk6, fhk21, ghk22, hhk22, fhk22, hk23, ehk20]
      · have ghk22n := no_f ghk22
        rcases or_t ghk22n with ghk22na | ⟨ghk22na, ghk22nb⟩
        · try simp only [go_sem, n1, n2, n3, n4, hk2, hk3] at ghk22na
          all_goals
          rcases it_some h with ⟨hk23, h⟩ | ⟨hk23, h⟩
          · try simp only [go_sem, n1, n2, n3, n4, hk2, hk3, ghk22na] at hk23
            all_goals
            obtain rfl := so_some h
            refine ⟨Lhk20, fun L hL => ?_⟩
            have ehk20 := ehk20 L (by omega)
            try simp only [go_sem, E_impl_UnpackEstimates_l1, R_impl_UnpackEstimates_l1, ir16_k0, ir16_o0, ir16_r0, hk2, hk3, ghk22na, hk23] at ehk20
            simp only [go_sem, ir16, E_impl_UnpackEstimates_l1, R_impl_UnpackEstimates_l1, ir16_k0, ir16_o0, ir16_r0, fhk1, hk2, hk3, fhk4, fhk5, fhk6, fhk21, ghk22na, hk23, ehk20]
          · try simp only [go_sem, n1, n2, n3, n4, hk2, hk3, ghk22na] at hk23
            all_goals
            obtain rfl := so_some h
            refine ⟨Lhk20, fun L hL => ?_⟩
            have ehk20 := ehk20 L (by omega)
            try simp only [go_sem, E_impl_UnpackEstimates_l1, R_impl_UnpackEstimates_l1, ir16_k0, ir16_o0, ir16_r0, hk2, hk3, ghk22na, hk23] at ehk20
            simp only [go_sem, ir16, E_impl_UnpackEstimates_l1, R_impl_UnpackEstimates_l1, ir16_k0, ir16_o0, ir16_r0, fhk1, hk2, hk3, fhk4, fhk5, fhk6, fhk21, ghk22na, hk23, ehk20]
        · have ghk22nbn := no_t ghk22nb
          try simp only [go_sem, n1, n2, n3, n4, hk2, hk3] at ghk22na
          all_goals
          try simp only [go_sem, n1, n2, n3, n4, hk2, hk3, ghk22na] at ghk22nbn
          all_goals
          rcases it_some h with ⟨hk23, h⟩ | ⟨hk23, h⟩
          · try simp only [go_sem, n1, n2, n3, n4, hk2, hk3, ghk22na, ghk22nbn] at hk23
            all_goals
            obtain rfl := so_some h
            refine ⟨Lhk20, fun L hL => ?_⟩
            have ehk20 := ehk20 L (by omega)
            try simp only [go_sem, E_impl_UnpackEstimates_l1, R_impl_UnpackEstimates_l1, ir16_k0, ir16_o0, ir16_r0, hk2, hk3, ghk22na, ghk22nbn, hk23] at ehk20
            simp only [go_sem, ir16, E_impl_UnpackEstimates_l1, R_impl_UnpackEstimates_l1, ir16_k0, ir16_o0, ir16_r0, fhk1, hk2, hk3, fhk4, fhk5, fhk6, fhk21, ghk22na, ghk22nbn, hk23, ehk20]
          · try simp only [go_sem, n1, n2, n3, n4, hk2, hk3, ghk22na, ghk22nbn] at hk23
            all_goals
            obtain rfl := so_some h
            refine ⟨Lhk20, fun L hL => ?_⟩
            have ehk20 := ehk20 L (by omega)
            try simp only [go_sem, E_impl_UnpackEstimates_l1, R_impl_UnpackEstimates_l1, ir16_k0, ir16_o0, ir16_r0, hk2, hk3, ghk22na, ghk22nbn, hk23] at ehk20
            simp only [go_sem, ir16, E_impl_UnpackEstimates_l1, R_impl_UnpackEstimates_l1, ir16_k0, ir16_o0, ir16_r0, fhk1, hk2, hk3, fhk4, fhk5, fhk6, fhk21, ghk22na, ghk22nbn, hk23, ehk20]
    · dsimp only at h
      obtain rfl := so_some h
      refine ⟨Lhk20, fun L hL => ?_⟩
      have ehk20 := ehk20 L (by omega)
      try simp only [go_sem, E_impl_UnpackEstimates_l1, R_impl_UnpackEstimates_l1, ir16_k0, ir16_o0, ir16_r0, hk2, hk3] at ehk20
      simp only [go_sem, ir16, E_impl_UnpackEstimates_l1, R_impl_UnpackEstimates_l1, ir16_k0, ir16_o0, ir16_r0, fhk1, hk2, hk3, fhk4, fhk5, fhk6, ehk20]


def ir32_v : List Nat := [0, 1, 2, 3, 4]
def ir32 : AFn := ⟨2, 5, .seq (.region false [
    ⟨.var 2, 2, none, .box (.v 0)⟩,
    ⟨.var 3, 3, none, .box (.v 1)⟩,
    ⟨.var 4, 4, none, .mov (.c (.bool false))⟩])
 (.seq (.test false [
    ⟨.push, 5, none, .fldAddr 0 (.v 2)⟩,
    ⟨.push, 6, none, .load false 1 (.s 0)⟩,
    ⟨.push, 7, none, .fldAddr 0 (.v 3)⟩,
    ⟨.push, 8, none, .load false 1 (.s 0)⟩,
    ⟨.push, 9, none, .bin false .neq (.s 2) (.s 0)⟩] (.s 0)
  (.seq (.region false [
      ⟨.var 4, 4, none, .mov (.c (.bool false))⟩])
   (.ret))
  (.skip))
 (.seq (.test false [
    ⟨.push, 10, none, .fldAddr 1 (.v 2)⟩,
    ⟨.push, 11, none, .load false 1 (.s 0)⟩,
    ⟨.push, 12, none, .fldAddr 1 (.v 3)⟩,
    ⟨.push, 13, none, .load false 1 (.s 0)⟩,
    ⟨.push, 14, none, .bin false .neq (.s 2) (.s 0)⟩] (.s 0)
  (.seq (.region false [
      ⟨.var 4, 4, none, .mov (.c (.bool false))⟩])
   (.ret))
  (.skip))
 (.seq (.test false [
    ⟨.push, 15, none, .fldAddr 2 (.v 2)⟩,
    ⟨.push, 16, none, .load false 1 (.s 0)⟩,
    ⟨.push, 17, none, .fldAddr 2 (.v 3)⟩,
    ⟨.push, 18, none, .load false 1 (.s 0)⟩,
    ⟨.push, 19, none, .bin false .neq (.s 2) (.s 0)⟩] (.s 0)
  (.seq (.region false [
      ⟨.var 4, 4, none, .mov (.c (.bool false))⟩])
   (.ret))
  (.skip))
 (.seq (.test false [
    ⟨.push, 20, none, .fldAddr 3 (.v 2)⟩,
    ⟨.push, 21, none, .load false 1 (.s 0)⟩,
    ⟨.push, 22, none, .fldAddr 3 (.v 3)⟩,
    ⟨.push, 23, none, .load false 1 (.s 0)⟩,
    ⟨.push, 24, none, .bin false .neq (.s 2) (.s 0)⟩] (.s 0)
  (.seq (.region false [
      ⟨.var 4, 4, none, .mov (.c (.bool false))⟩])
   (.ret))
  (.skip))
 (.seq (.test false [
    ⟨.push, 25, none, .fldAddr 4 (.v 2)⟩,
    ⟨.push, 26, none, .load false 1 (.s 0)⟩,
    ⟨.push, 27, none, .fldAddr 4 (.v 3)⟩,
    ⟨.push, 28, none, .load false 1 (.s 0)⟩,
    ⟨.push, 29, none, .bin true .neq (.s 2) (.s 0)⟩] (.s 0)
  (.seq (.region false [
      ⟨.var 4, 4, none, .mov (.c (.bool false))⟩])
   (.ret))
  (.skip))
 (.seq (.region false [
    ⟨.var 4, 4, none, .mov (.c (.bool true))⟩])
 (.ret))))))), [.t 4]⟩
noncomputable def t_laws_eqEstimate : List (Nat × Ctr) := []
noncomputable def c_laws_eqEstimate : Ctr := mkF t_laws_eqEstimate ir32 [.bor, .bor]
theorem s_laws_eqEstimate : Sound Try.prog 32 c_laws_eqEstimate := mkF_sound _ rfl snd_nil (by kernel_rfl : chkFn Try.prog 32 ir32 ir32_v = true)
theorem M_laws_eqEstimate : c_laws_eqEstimate.modes = [.bor, .bor] := rfl
theorem Fl_laws_eqEstimate : c_laws_eqEstimate.flat = true := rfl
attribute [go_sem] M_laws_eqEstimate Fl_laws_eqEstimate
theorem Fs_laws_eqEstimate {a : Estimate} {b : Estimate} {y_ : Bool} (h : laws_eqEstimate a b = some y_) : c_laws_eqEstimate.F [Estimate_av a, Estimate_av b] = ⟨true, .bool y_, [.any, .any]⟩ := by
  refine mkF_E rfl ?_
  dsimp only [laws_eqEstimate] at h
  rcases it_some h with ⟨hk1, h⟩ | ⟨hk1, h⟩
  · try simp only [go_sem, n1, n2, n3, n4] at hk1
    all_goals
    obtain rfl := so_some h
    refine ⟨0, fun L hL => ?_⟩
    simp only [go_sem, ir32, hk1]
  · try simp only [go_sem, n1, n2, n3, n4] at hk1
    all_goals
    rcases it_some h with ⟨hk2, h⟩ | ⟨hk2, h⟩
    · try simp only [go_sem, n1, n2, n3, n4, hk1] at hk2
      all_goals
      obtain rfl := so_some h
      refine ⟨0, fun L hL => ?_⟩
      simp only [go_sem, ir32, hk1, hk2]
    · try simp only [go_sem, n1, n2, n3, n4, hk1] at hk2
      all_goals
      rcases it_some h with ⟨hk3, h⟩ | ⟨hk3, h⟩
      · try simp only [go_sem, n1, n2, n3, n4, hk1, hk2] at hk3
        all_goals
        obtain rfl := so_some h
        refine ⟨0, fun L hL => ?_⟩
        simp only [go_sem, ir32, hk1, hk2, hk3]
      · try simp only [go_sem, n1, n2, n3, n4, hk1, hk2] at hk3
        all_goals
        rcases it_some h with ⟨hk4, h⟩ | ⟨hk4, h⟩
        · try simp only [go_sem, n1, n2, n3, n4, hk1, hk2, hk3] at hk4
          all_goals
          obtain rfl := so_some h
          refine ⟨0, fun L hL => ?_⟩
          simp only [go_sem, ir32, hk1, hk2, hk3, hk4]
        · try simp only [go_sem, n1, n2, n3, n4, hk1, hk2, hk3] at hk4
          all_goals
          rcases it_some h with ⟨hk5, h⟩ | ⟨hk5, h⟩
          · try simp only [go_sem, n1, n2, n3, n4, hk1, hk2, hk3, hk4] at hk5
            all_goals
            obtain rfl := so_some h
            refine ⟨0, fun L hL => ?_⟩
            simp only [go_sem, ir32, hk1, hk2, hk3, hk4, hk5]
          · try simp only [go_sem, n1, n2, n3, n4, hk1, hk2, hk3, hk4] at hk5
            all_goals
            obtain rfl := so_some h
            refine ⟨0, fun L hL => ?_⟩
            simp only [go_sem, ir32, hk1, hk2, hk3, hk4, hk5]


def ir10_b0 : IR := .seq (.test false [
    ⟨.push, 11, none, .mov (.v 3)⟩,
    ⟨.push, 12, none, .mov (.v 0)⟩,
    ⟨.push, 13, none, .len false (.s 0)⟩,
    ⟨.push, 14, none, .bin false .lss (.s 2) (.s 0)⟩] (.s 0)
  (.skip)
  (.exit 0))
 (.seq (.block 1 (.anyo 10 [
     ⟨.slot 0, 17, none, .mov (.v 0)⟩,
     ⟨.slot 1, 18, none, .mov (.v 3)⟩,
     ⟨.slot 2, 19, none, .ixAddr 5 (.s 0) (.s 1)⟩,
     ⟨.slot 3, 20, none, .load true 5 (.s 2)⟩,
     ⟨.slot 4, 21, none, .mov (.v 1)⟩,
     ⟨.slot 5, 22, none, .mov (.v 3)⟩,
     ⟨.slot 6, 23, none, .ixAddr 5 (.s 4) (.s 5)⟩,
     ⟨.slot 7, 24, none, .load true 5 (.s 6)⟩,
     ⟨.slot 8, 25, none, .callp 32 [(.s 3), (.s 7)]⟩,
     ⟨.slot 9, 26, none, .un .not (.s 8)⟩] [] (.cond (.s 9)
   (.seq (.region false [
       ⟨.var 2, 4, none, .mov (.c (.bool false))⟩])
    (.ret))
   (.skip))))
 (.region false [
   ⟨.push, 15, none, .mov (.v 3)⟩,
   ⟨.push, 16, none, .bin false .add (.s 0) (.c (.int .i64 (1)))⟩,
   ⟨.var 3, 5, none, .mov (.s 0)⟩]))
def ir10_k0 : List Bool := [true, true, false, true]
def ir10_o0 : List Bool := [false, false, false, false]
def ir10_r0 : List Bool := [false, false, true, false]
def ir10_v : List Nat := [0, 1, 4, 5]
def ir10 : AFn := ⟨2, 4, .seq (.region false [
    ⟨.var 2, 4, none, .mov (.c (.bool false))⟩])
 (.seq (.test false [
    ⟨.push, 6, none, .mov (.v 0)⟩,
    ⟨.push, 7, none, .len false (.s 0)⟩,
    ⟨.push, 8, none, .mov (.v 1)⟩,
    ⟨.push, 9, none, .len false (.s 0)⟩,
    ⟨.push, 10, none, .bin false .neq (.s 2) (.s 0)⟩] (.s 0)
  (.seq (.region false [
      ⟨.var 2, 4, none, .mov (.c (.bool false))⟩])
   (.ret))
  (.skip))
 (.seq (.seq (.region false [
     ⟨.var 3, 5, none, .mov (.c (.int .i64 (0)))⟩])
  (.block 0 (.loop ir10_k0 ir10_o0 ir10_r0 ir10_b0)))
 (.seq (.region false [
    ⟨.var 2, 4, none, .mov (.c (.bool true))⟩])
 (.ret)))), [.t 2]⟩
noncomputable def t_laws_eqEstimateS : List (Nat × Ctr) := [(32, c_laws_eqEstimate)]
theorem lk_laws_eqEstimateS_32 : look t_laws_eqEstimateS 32 = some c_laws_eqEstimate := rfl
noncomputable def c_laws_eqEstimateS : Ctr := mkF t_laws_eqEstimateS ir10 [.bor, .bor]
theorem s_laws_eqEstimateS : Sound Try.prog 10 c_laws_eqEstimateS := mkF_sound _ rfl (snd_cons s_laws_eqEstimate snd_nil) (by kernel_rfl : chkFn Try.prog 10 ir10 ir10_v = true)
theorem M_laws_eqEstimateS : c_laws_eqEstimateS.modes = [.bor, .bor] := rfl
theorem Fl_laws_eqEstimateS : c_laws_eqEstimateS.flat = true := rfl
attribute [go_sem] M_laws_eqEstimateS Fl_laws_eqEstimateS
attribute [go_sem] lk_laws_eqEstimateS_32
def E_laws_eqEstimateS_l1 (a : List Estimate) (b : List Estimate) : Int → St
  | i => ⟨[.sl 5 (List.map Estimate_av a), .sl 5 (List.map Estimate_av b), .any, .int .i64 i], [], [], true⟩
def R_laws_eqEstimateS_l1 (a : List Estimate) (b : List Estimate) : (Unit ⊕ Bool) → Res
  | .inl y => (.exit 0, ⟨[.any, .any, .any, .any], [], [], true⟩)
  | .inr y => (.ret, ⟨[.any, .any, .bool y, .any], [], [], true⟩)
theorem laws_eqEstimateS_l1_ex {a : List Estimate} {b : List Estimate} {sgm_ : Int} {rho_ : Unit ⊕ Bool} (h : whileE (laws_eqEstimateS_l1 a b) sgm_ = some rho_) : ∃ L0, ∀ L, L0 ≤ L → iter (exec (look t_laws_eqEstimateS) L ir10_b0) ir10_k0 ir10_o0 ir10_r0 L (E_laws_eqEstimateS_l1 a b sgm_) = R_laws_eqEstimateS_l1 a b rho_ := by
  refine loop_ex (E := E_laws_eqEstimateS_l1 a b) (R := R_laws_eqEstimateS_l1 a b) (fun y => by first | (intro c; cases c) | (rcases y with y | y <;> (intro c; cases c)) | (rcases y with y | y | y <;> (intro c; cases c))) ?_ h
  clear h
  intro i o_ h
  dsimp only [laws_eqEstimateS_l1] at h
  rcases it_some h with ⟨hk2, h⟩ | ⟨hk2, h⟩
  · try simp only [go_sem, n1, n2, n3, n4] at hk2
    all_goals
    obtain ⟨hk3, h⟩ := ck_some h
    have lhk3 := ix_lt hk3
    have xhk3 := getD_mapD Estimate_av a lhk3
    try simp only [go_sem] at lhk3
    try simp only [go_sem] at xhk3
    try simp only [go_sem, n1, n2, n3, n4, hk2] at hk3
    all_goals
    obtain ⟨hk4, h⟩ := ck_some h
    have lhk4 := ix_lt hk4
    have xhk4 := getD_mapD Estimate_av b lhk4
    try simp only [go_sem] at lhk4
    try simp only [go_sem] at xhk4
    try simp only [go_sem, n1, n2, n3, n4, hk2, hk3] at hk4
    all_goals
    obtain ⟨y_5, hk5, h⟩ := bd_some h
    have fhk5 := Fs_laws_eqEstimate hk5
    try simp only [go_sem, hk2, hk3, hk4] at fhk5
    rcases it_some h with ⟨hk6, h⟩ | ⟨hk6, h⟩
    · try simp only [go_sem, n1, n2, n3, n4, hk2, hk3, hk4] at hk6
      all_goals
      obtain rfl := so_some h
      refine ⟨0, fun L hL => ?_⟩
      simp only [go_sem, ir10, E_laws_eqEstimateS_l1, R_laws_eqEstimateS_l1, ir10_b0, ir10_k0, ir10_o0, ir10_r0, hk2, hk3, lhk3, xhk3, hk4, lhk4, xhk4, fhk5, hk6]
    · try simp only [go_sem, n1, n2, n3, n4, hk2, hk3, hk4] at hk6
      all_goals
      obtain rfl := so_some h
      refine ⟨0, fun L hL => ?_⟩
      simp only [go_sem, ir10, E_laws_eqEstimateS_l1, R_laws_eqEstimateS_l1, ir10_b0, ir10_k0, ir10_o0, ir10_r0, hk2, hk3, lhk3, xhk3, hk4, lhk4, xhk4, fhk5, hk6]
  · try simp only [go_sem, n1, n2, n3, n4] at hk2
    all_goals
    obtain rfl := so_some h
    refine ⟨0, fun L hL => ?_⟩
    simp only [go_sem, ir10, E_laws_eqEstimateS_l1, R_laws_eqEstimateS_l1, ir10_b0, ir10_k0, ir10_o0, ir10_r0, hk2]

theorem Fs_laws_eqEstimateS {a : List Estimate} {b : List Estimate} {y_ : Bool} (h : laws_eqEstimateS a b = some y_) : c_laws_eqEstimateS.F [.sl 5 (List.map Estimate_av a), .sl 5 (List.map Estimate_av b)] = ⟨true, .bool y_, [.any, .any]⟩ := by
  refine mkF_E rfl ?_
  dsimp only [laws_eqEstimateS] at h
  rcases it_some h with ⟨hk1, h⟩ | ⟨hk1, h⟩
  · try simp only [go_sem, n1, n2, n3, n4] at hk1
    all_goals
    obtain rfl := so_some h
    refine ⟨0, fun L hL => ?_⟩
    simp only [go_sem, ir10, E_laws_eqEstimateS_l1, R_laws_eqEstimateS_l1, ir10_k0, ir10_o0, ir10_r0, hk1]
  · try simp only [go_sem, n1, n2, n3, n4] at hk1
    all_goals
    obtain ⟨y_7, hk7, h⟩ := bd_some h
    obtain ⟨Lhk7, ehk7⟩ := laws_eqEstimateS_l1_ex hk7
    rcases y_7 with y_7a | y_7b
    · dsimp only at h
      obtain rfl := so_some h
      refine ⟨Lhk7, fun L hL => ?_⟩
      have ehk7 := ehk7 L (by omega)
      try simp only [go_sem, E_laws_eqEstimateS_l1, R_laws_eqEstimateS_l1, ir10_k0, ir10_o0, ir10_r0, hk1] at ehk7
      simp only [go_sem, ir10, E_laws_eqEstimateS_l1, R_laws_eqEstimateS_l1, ir10_k0, ir10_o0, ir10_r0, hk1, ehk7]
    · dsimp only at h
      obtain rfl := so_some h
      refine ⟨Lhk7, fun L hL => ?_⟩
      have ehk7 := ehk7 L (by omega)
      try simp only [go_sem, E_laws_eqEstimateS_l1, R_laws_eqEstimateS_l1, ir10_k0, ir10_o0, ir10_r0, hk1] at ehk7
      simp only [go_sem, ir10, E_laws_eqEstimateS_l1, R_laws_eqEstimateS_l1, ir10_k0, ir10_o0, ir10_r0, hk1, ehk7]


def ir9_b0 : IR := .seq (.test false [
    ⟨.push, 11, none, .mov (.v 3)⟩,
    ⟨.push, 12, none, .mov (.v 0)⟩,
    ⟨.push, 13, none, .len false (.s 0)⟩,
    ⟨.push, 14, none, .bin false .lss (.s 2) (.s 0)⟩] (.s 0)
  (.skip)
  (.exit 0))
 (.seq (.block 1 (.anyo 9 [
     ⟨.slot 0, 17, none, .mov (.v 0)⟩,
     ⟨.slot 1, 18, none, .mov (.v 3)⟩,
     ⟨.slot 2, 19, none, .ixAddr 1 (.s 0) (.s 1)⟩,
     ⟨.slot 3, 20, none, .load false 1 (.s 2)⟩,
     ⟨.slot 4, 21, none, .mov (.v 1)⟩,
     ⟨.slot 5, 22, none, .mov (.v 3)⟩,
     ⟨.slot 6, 23, none, .ixAddr 1 (.s 4) (.s 5)⟩,
     ⟨.slot 7, 24, none, .load false 1 (.s 6)⟩,
     ⟨.slot 8, 25, none, .bin false .neq (.s 3) (.s 7)⟩] [] (.cond (.s 8)
   (.seq (.region false [
       ⟨.var 2, 4, none, .mov (.c (.bool false))⟩])
    (.ret))
   (.skip))))
 (.region false [
   ⟨.push, 15, none, .mov (.v 3)⟩,
   ⟨.push, 16, none, .bin false .add (.s 0) (.c (.int .i64 (1)))⟩,
   ⟨.var 3, 5, none, .mov (.s 0)⟩]))
def ir9_k0 : List Bool := [true, true, false, true]
def ir9_o0 : List Bool := [false, false, false, false]
def ir9_r0 : List Bool := [false, false, true, false]
def ir9_v : List Nat := [0, 1, 4, 5]
def ir9 : AFn := ⟨2, 4, .seq (.region false [
    ⟨.var 2, 4, none, .mov (.c (.bool false))⟩])
 (.seq (.test false [
    ⟨.push, 6, none, .mov (.v 0)⟩,
    ⟨.push, 7, none, .len false (.s 0)⟩,
    ⟨.push, 8, none, .mov (.v 1)⟩,
    ⟨.push, 9, none, .len false (.s 0)⟩,
    ⟨.push, 10, none, .bin false .neq (.s 2) (.s 0)⟩] (.s 0)
  (.seq (.region false [
      ⟨.var 2, 4, none, .mov (.c (.bool false))⟩])
   (.ret))
  (.skip))
 (.seq (.seq (.region false [
     ⟨.var 3, 5, none, .mov (.c (.int .i64 (0)))⟩])
  (.block 0 (.loop ir9_k0 ir9_o0 ir9_r0 ir9_b0)))
 (.seq (.region false [
    ⟨.var 2, 4, none, .mov (.c (.bool true))⟩])
 (.ret)))), [.t 2]⟩
noncomputable def t_laws_eqByteS : List (Nat × Ctr) := []
noncomputable def c_laws_eqByteS : Ctr := mkF t_laws_eqByteS ir9 [.bor, .bor]
theorem s_laws_eqByteS : Sound Try.prog 9 c_laws_eqByteS := mkF_sound _ rfl snd_nil (by kernel_rfl : chkFn Try.prog 9 ir9 ir9_v = true)
theorem M_laws_eqByteS : c_laws_eqByteS.modes = [.bor, .bor] := rfl
theorem Fl_laws_eqByteS : c_laws_eqByteS.flat = true := rfl
attribute [go_sem] M_laws_eqByteS Fl_laws_eqByteS
def E_laws_eqByteS_l1 (a : List UInt8) (b : List UInt8) : Int → St
  | i => ⟨[.sl 1 (List.map byteAV a), .sl 1 (List.map byteAV b), .any, .int .i64 i], [], [], true⟩
def R_laws_eqByteS_l1 (a : List UInt8) (b : List UInt8) : (Unit ⊕ Bool) → Res
  | .inl y => (.exit 0, ⟨[.any, .any, .any, .any], [], [], true⟩)
  | .inr y => (.ret, ⟨[.any, .any, .bool y, .any], [], [], true⟩)
theorem laws_eqByteS_l1_ex {a : List UInt8} {b : List UInt8} {sgm_ : Int} {rho_ : Unit ⊕ Bool} (h : whileE (laws_eqByteS_l1 a b) sgm_ = some rho_) : ∃ L0, ∀ L, L0 ≤ L → iter (exec (look t_laws_eqByteS) L ir9_b0) ir9_k0 ir9_o0 ir9_r0 L (E_laws_eqByteS_l1 a b sgm_) = R_laws_eqByteS_l1 a b rho_ := by
  refine loop_ex (E := E_laws_eqByteS_l1 a b) (R := R_laws_eqByteS_l1 a b) (fun y => by first | (intro c; cases c) | (rcases y with y | y <;> (intro c; cases c)) | (rcases y with y | y | y <;> (intro c; cases c))) ?_ h
  clear h
  intro i o_ h
  dsimp only [laws_eqByteS_l1] at h
  rcases it_some h with ⟨hk2, h⟩ | ⟨hk2, h⟩
  · try simp only [go_sem, n1, n2, n3, n4] at hk2
    all_goals
    obtain ⟨hk3, h⟩ := ck_some h
    have lhk3 := ix_lt hk3
    have xhk3 := getD_mapD byteAV a lhk3
    try simp only [go_sem] at lhk3
    try simp only [go_sem] at xhk3
    try simp only [go_sem, n1, n2, n3, n4, hk2] at hk3
    all_goals
    obtain ⟨hk4, h⟩ := ck_some h
    have lhk4 := ix_lt hk4
    have xhk4 := getD_mapD byteAV b lhk4
    try simp only [go_sem] at lhk4
    try simp only [go_sem] at xhk4
    try simp only [go_sem, n1, n2, n3, n4, hk2, hk3] at hk4
    all_goals
    rcases it_some h with ⟨hk5, h⟩ | ⟨hk5, h⟩
    · try simp only [go_sem, n1, n2, n3, n4, hk2, hk3, hk4] at hk5
      all_goals
      obtain rfl := so_some h
      refine ⟨0, fun L hL => ?_⟩
      simp only [go_sem, ir9, E_laws_eqByteS_l1, R_laws_eqByteS_l1, ir9_b0, ir9_k0, ir9_o0, ir9_r0, hk2, hk3, lhk3, xhk3, hk4, lhk4, xhk4, hk5]
    · try simp only [go_sem, n1, n2, n3, n4, hk2, hk3, hk4] at hk5
      all_goals
      obtain rfl := so_some h
      refine ⟨0, fun L hL => ?_⟩
      simp only [go_sem, ir9, E_laws_eqByteS_l1, R_laws_eqByteS_l1, ir9_b0, ir9_k0, ir9_o0, ir9_r0, hk2, hk3, lhk3, xhk3, hk4, lhk4, xhk4, hk5]
  · try simp only [go_sem, n1, n2, n3, n4] at hk2
    all_goals
    obtain rfl := so_some h
    refine ⟨0, fun L hL => ?_⟩
    simp only [go_sem, ir9, E_laws_eqByteS_l1, R_laws_eqByteS_l1, ir9_b0, ir9_k0, ir9_o0, ir9_r0, hk2]

theorem Fs_laws_eqByteS {a : List UInt8} {b : List UInt8} {y_ : Bool} (h : laws_eqByteS a b = some y_) : c_laws_eqByteS.F [.sl 1 (List.map byteAV a), .sl 1 (List.map byteAV b)] = ⟨true, .bool y_, [.any, .any]⟩ := by
  refine mkF_E rfl ?_
  dsimp only [laws_eqByteS] at h
  rcases it_some h with ⟨hk1, h⟩ | ⟨hk1, h⟩
  · try simp only [go_sem, n1, n2, n3, n4] at hk1
    all_goals
    obtain rfl := so_some h
    refine ⟨0, fun L hL => ?_⟩
    simp only [go_sem, ir9, E_laws_eqByteS_l1, R_laws_eqByteS_l1, ir9_k0, ir9_o0, ir9_r0, hk1]
  · try simp only [go_sem, n1, n2, n3, n4] at hk1
    all_goals
    obtain ⟨y_6, hk6, h⟩ := bd_some h
    obtain ⟨Lhk6, ehk6⟩ := laws_eqByteS_l1_ex hk6
    rcases y_6 with y_6a | y_6b
    · dsimp only at h
      obtain rfl := so_some h
      refine ⟨Lhk6, fun L hL => ?_⟩
      have ehk6 := ehk6 L (by omega)
      try simp only [go_sem, E_laws_eqByteS_l1, R_laws_eqByteS_l1, ir9_k0, ir9_o0, ir9_r0, hk1] at ehk6
      simp only [go_sem, ir9, E_laws_eqByteS_l1, R_laws_eqByteS_l1, ir9_k0, ir9_o0, ir9_r0, hk1, ehk6]
    · dsimp only at h
      obtain rfl := so_some h
      refine ⟨Lhk6, fun L hL => ?_⟩
      have ehk6 := ehk6 L (by omega)
      try simp only [go_sem, E_laws_eqByteS_l1, R_laws_eqByteS_l1, ir9_k0, ir9_o0, ir9_r0, hk1] at ehk6
      simp only [go_sem, ir9, E_laws_eqByteS_l1, R_laws_eqByteS_l1, ir9_k0, ir9_o0, ir9_r0, hk1, ehk6]


def ir12_b0 : IR := .seq (.test false [
    ⟨.push, 6, none, .mov (.v 3)⟩,
    ⟨.push, 7, none, .mov (.v 0)⟩,
    ⟨.push, 8, none, .len false (.s 0)⟩,
    ⟨.push, 9, none, .bin false .lss (.s 2) (.s 0)⟩] (.s 0)
  (.skip)
  (.exit 0))
 (.seq (.block 1 (.seq (.region false [
      ⟨.push, 12, none, .mov (.v 0)⟩,
      ⟨.push, 13, none, .mov (.v 3)⟩,
      ⟨.push, 14, none, .mov (.v 1)⟩,
      ⟨.push, 15, none, .conv .u8 (.s 0)⟩,
      ⟨.push, 16, none, .ixAddr 1 (.s 3) (.s 2)⟩,
      ⟨.no, 0, none, .store 1 (.s 0) (.s 1)⟩])
   (.region false [
     ⟨.push, 17, none, .mov (.v 1)⟩,
     ⟨.push, 18, none, .bin false .add (.s 0) (.c (.int .i64 (1)))⟩,
     ⟨.var 1, 1, none, .mov (.s 0)⟩])))
 (.region false [
   ⟨.push, 10, none, .mov (.v 3)⟩,
   ⟨.push, 11, none, .bin false .add (.s 0) (.c (.int .i64 (1)))⟩,
   ⟨.var 3, 5, none, .mov (.s 0)⟩]))
def ir12_k0 : List Bool := [true, true, false, true]
def ir12_o0 : List Bool := [true, true, false, false]
def ir12_r0 : List Bool := [true, false, true, false]
def ir12_v : List Nat := [0, 1, 4, 5]
def ir12 : AFn := ⟨2, 4, .seq (.region false [
    ⟨.var 2, 4, none, .mov (.c (.int .i64 (0)))⟩])
 (.seq (.seq (.region false [
     ⟨.var 3, 5, none, .mov (.c (.int .i64 (0)))⟩])
  (.block 0 (.loop ir12_k0 ir12_o0 ir12_r0 ir12_b0)))
 (.seq (.region false [
    ⟨.push, 19, none, .mov (.v 1)⟩,
    ⟨.var 2, 4, none, .mov (.s 0)⟩])
 (.ret))), [.t 2]⟩
noncomputable def t_laws_markByteS : List (Nat × Ctr) := []
noncomputable def c_laws_markByteS : Ctr := mkN t_laws_markByteS ir12 [.io, .bor]
theorem s_laws_markByteS : Sound Try.prog 12 c_laws_markByteS := mkN_sound _ snd_nil (by kernel_rfl : chkFn Try.prog 12 ir12 ir12_v = true)
theorem M_laws_markByteS : c_laws_markByteS.modes = [.io, .bor] := rfl
theorem Fl_laws_markByteS : c_laws_markByteS.flat = false := rfl
attribute [go_sem] M_laws_markByteS Fl_laws_markByteS
def E_laws_markByteS_l1  : ((List UInt8) × Int × Int) → St
  | (a, k, i) => ⟨[.own 31, .int .i64 k, .any, .int .i64 i], [], [(31, ⟨1, List.map byteAV a⟩)], true⟩
def R_laws_markByteS_l1  (y : (List UInt8) × Int) : Res := (.exit 0, ⟨[.own 31, .int .i64 y.2, .any, .any], [], [(31, ⟨1, List.map byteAV y.1⟩)], true⟩)
theorem laws_markByteS_l1_ex  {sgm_ : (List UInt8) × Int × Int} {rho_ : (List UInt8) × Int} (h : whileE (laws_markByteS_l1) sgm_ = some rho_) : ∃ L0, ∀ L, L0 ≤ L → iter (exec (look t_laws_markByteS) L ir12_b0) ir12_k0 ir12_o0 ir12_r0 L (E_laws_markByteS_l1 sgm_) = R_laws_markByteS_l1 rho_ := by
  refine loop_ex (E := E_laws_markByteS_l1) (R := R_laws_markByteS_l1) (fun y => by first | (intro c; cases c) | (rcases y with y | y <;> (intro c; cases c)) | (rcases y with y | y | y <;> (intro c; cases c))) ?_ h
  clear h
  rintro ⟨a, k, i⟩ o_ h
  dsimp only [laws_markByteS_l1] at h
  rcases it_some h with ⟨hk1, h⟩ | ⟨hk1, h⟩
  · try simp only [go_sem, n1, n2, n3, n4] at hk1
    all_goals
    obtain ⟨hk2, h⟩ := ck_some h
    have lhk2 := ix_lt hk2
    have xhk2 := getD_mapD byteAV a lhk2
    try simp only [go_sem] at lhk2
    try simp only [go_sem] at xhk2
    try simp only [go_sem, n1, n2, n3, n4, hk1] at hk2
    all_goals
    obtain rfl := so_some h
    refine ⟨0, fun L hL => ?_⟩
    simp only [go_sem, ir12, E_laws_markByteS_l1, R_laws_markByteS_l1, ir12_b0, ir12_k0, ir12_o0, ir12_r0, hk1, hk2, lhk2, xhk2]
  · try simp only [go_sem, n1, n2, n3, n4] at hk1
    all_goals
    obtain rfl := so_some h
    refine ⟨0, fun L hL => ?_⟩
    simp only [go_sem, ir12, E_laws_markByteS_l1, R_laws_markByteS_l1, ir12_b0, ir12_k0, ir12_o0, ir12_r0, hk1]

theorem Fs_laws_markByteS {a : List UInt8} {k : Int} {y_ : Int × (List UInt8)} (h : laws_markByteS a k = some y_) : c_laws_markByteS.F [.fresh 1 (List.map byteAV a), .int .i64 k] = ⟨true, .int .i64 y_.1, [.fresh 1 (List.map byteAV y_.2), .any]⟩ := by
  refine mkN_E ?_
  dsimp only [laws_markByteS] at h
  obtain ⟨y_3, hk3, h⟩ := bd_some h
  obtain ⟨Lhk3, ehk3⟩ := laws_markByteS_l1_ex hk3
  obtain ⟨hk4, h⟩ := ck_some h
  try simp only [go_sem, n1, n2, n3, n4] at hk4
  all_goals
  obtain rfl := so_some h
  refine ⟨Lhk3, fun L hL => ?_⟩
  have ehk3 := ehk3 L (by omega)
  try simp only [go_sem, E_laws_markByteS_l1, R_laws_markByteS_l1, ir12_k0, ir12_o0, ir12_r0, hk4] at ehk3
  simp only [go_sem, ir12, E_laws_markByteS_l1, R_laws_markByteS_l1, ir12_k0, ir12_o0, ir12_r0, hk4, ehk3]


def ir33_b0 : IR := .seq (.test false [
    ⟨.push, 6, none, .mov (.v 0)⟩,
    ⟨.push, 7, none, .bin false .gtr (.s 0) (.c (.int .i64 (0)))⟩] (.s 0)
  (.skip)
  (.exit 0))
 (.block 1 (.seq (.region false [
     ⟨.push, 8, none, .mov (.v 0)⟩,
     ⟨.push, 9, none, .bin false .rem (.s 0) (.c (.int .i64 (10)))⟩,
     ⟨.push, 10, none, .bin false .add (.c (.int .i64 (48))) (.s 0)⟩,
     ⟨.push, 11, none, .conv .u8 (.s 0)⟩,
     ⟨.push, 12, none, .mkSl 1 (.int .u8 (0)) 1 [(0, (.s 0))]⟩,
     ⟨.push, 13, none, .b2s (.s 0)⟩,
     ⟨.push, 14, none, .mov (.v 2)⟩,
     ⟨.push, 15, none, .bin false .add (.s 1) (.s 0)⟩,
     ⟨.var 2, 3, none, .mov (.s 0)⟩])
  (.region false [
    ⟨.push, 16, none, .mov (.v 0)⟩,
    ⟨.push, 17, none, .bin false .quo (.s 0) (.c (.int .i64 (10)))⟩,
    ⟨.var 0, 0, none, .mov (.s 0)⟩])))
def ir33_k0 : List Bool := [true, false, true]
def ir33_o0 : List Bool := [false, false, true]
def ir33_r0 : List Bool := [false, true, false]
def ir33_v : List Nat := [0, 2, 3]
def ir33 : AFn := ⟨1, 3, .seq (.region false [
    ⟨.var 1, 2, none, .mov (.c (.str []))⟩])
 (.seq (.test false [
    ⟨.push, 4, none, .mov (.v 0)⟩,
    ⟨.push, 5, none, .bin false .leq (.s 0) (.c (.int .i64 (0)))⟩] (.s 0)
  (.seq (.region false [
      ⟨.var 1, 2, none, .mov (.c (.str [109, 48]))⟩])
   (.ret))
  (.skip))
 (.seq (.region false [
    ⟨.var 2, 3, none, .mov (.c (.str []))⟩])
 (.seq (.block 0 (.loop ir33_k0 ir33_o0 ir33_r0 ir33_b0))
 (.seq (.region false [
    ⟨.push, 18, none, .mov (.v 2)⟩,
    ⟨.push, 19, none, .bin false .add (.c (.str [109])) (.s 0)⟩,
    ⟨.var 1, 2, none, .mov (.s 0)⟩])
 (.ret))))), [.t 1]⟩
noncomputable def t_laws_markText : List (Nat × Ctr) := []
noncomputable def c_laws_markText : Ctr := mkF t_laws_markText ir33 [.bor]
theorem s_laws_markText : Sound Try.prog 33 c_laws_markText := mkF_sound _ rfl snd_nil (by kernel_rfl : chkFn Try.prog 33 ir33 ir33_v = true)
theorem M_laws_markText : c_laws_markText.modes = [.bor] := rfl
theorem Fl_laws_markText : c_laws_markText.flat = true := rfl
attribute [go_sem] M_laws_markText Fl_laws_markText
def E_laws_markText_l1  : (Int × (List UInt8)) → St
  | (k, out) => ⟨[.int .i64 k, .any, .str out], [], [], true⟩
def R_laws_markText_l1  (y : (List UInt8)) : Res := (.exit 0, ⟨[.any, .any, .str y], [], [], true⟩)
theorem laws_markText_l1_ex  {sgm_ : Int × (List UInt8)} {rho_ : (List UInt8)} (h : whileE (laws_markText_l1) sgm_ = some rho_) : ∃ L0, ∀ L, L0 ≤ L → iter (exec (look t_laws_markText) L ir33_b0) ir33_k0 ir33_o0 ir33_r0 L (E_laws_markText_l1 sgm_) = R_laws_markText_l1 rho_ := by
  refine loop_ex (E := E_laws_markText_l1) (R := R_laws_markText_l1) (fun y => by first | (intro c; cases c) | (rcases y with y | y <;> (intro c; cases c)) | (rcases y with y | y | y <;> (intro c; cases c))) ?_ h
  clear h
  rintro ⟨k, out⟩ o_ h
  dsimp only [laws_markText_l1] at h
  rcases it_some h with ⟨hk2, h⟩ | ⟨hk2, h⟩
  · try simp only [go_sem, n1, n2, n3, n4] at hk2
    all_goals
    obtain ⟨hk3, h⟩ := ck_some h
    try simp only [go_sem, n1, n2, n3, n4, hk2] at hk3
    all_goals
    obtain ⟨hk4, h⟩ := ck_some h
    try simp only [go_sem, n1, n2, n3, n4, hk2, hk3] at hk4
    all_goals
    obtain rfl := so_some h
    refine ⟨0, fun L hL => ?_⟩
    simp only [go_sem, ir33, E_laws_markText_l1, R_laws_markText_l1, ir33_b0, ir33_k0, ir33_o0, ir33_r0, hk2, hk3, hk4]
  · try simp only [go_sem, n1, n2, n3, n4] at hk2
    all_goals
    obtain rfl := so_some h
    refine ⟨0, fun L hL => ?_⟩
    simp only [go_sem, ir33, E_laws_markText_l1, R_laws_markText_l1, ir33_b0, ir33_k0, ir33_o0, ir33_r0, hk2]

theorem Fs_laws_markText {k : Int} {y_ : (List UInt8)} (h : laws_markText k = some y_) : c_laws_markText.F [.int .i64 k] = ⟨true, .str y_, [.any]⟩ := by
  refine mkF_E rfl ?_
  dsimp only [laws_markText] at h
  rcases it_some h with ⟨hk1, h⟩ | ⟨hk1, h⟩
  · try simp only [go_sem, n1, n2, n3, n4] at hk1
    all_goals
    obtain rfl := so_some h
    refine ⟨0, fun L hL => ?_⟩
    simp only [go_sem, ir33, E_laws_markText_l1, R_laws_markText_l1, ir33_k0, ir33_o0, ir33_r0, hk1]
  · try simp only [go_sem, n1, n2, n3, n4] at hk1
    all_goals
    obtain ⟨y_5, hk5, h⟩ := bd_some h
    obtain ⟨Lhk5, ehk5⟩ := laws_markText_l1_ex hk5
    obtain ⟨hk6, h⟩ := ck_some h
    try simp only [go_sem, n1, n2, n3, n4, hk1] at hk6
    all_goals
    obtain rfl := so_some h
    refine ⟨Lhk5, fun L hL => ?_⟩
    have ehk5 := ehk5 L (by omega)
    try simp only [go_sem, E_laws_markText_l1, R_laws_markText_l1, ir33_k0, ir33_o0, ir33_r0, hk1, hk6] at ehk5
    simp only [go_sem, ir33, E_laws_markText_l1, R_laws_markText_l1, ir33_k0, ir33_o0, ir33_r0, hk1, hk6, ehk5]


def ir11_b0 : IR := .seq (.test false [
    ⟨.push, 6, none, .mov (.v 3)⟩,
    ⟨.push, 7, none, .mov (.v 0)⟩,
    ⟨.push, 8, none, .len false (.s 0)⟩,
    ⟨.push, 9, none, .bin false .lss (.s 2) (.s 0)⟩] (.s 0)
  (.skip)
  (.exit 0))
 (.seq (.block 1 (.seq (.region false [
      ⟨.push, 12, none, .mov (.v 0)⟩,
      ⟨.push, 13, none, .mov (.v 3)⟩,
      ⟨.push, 14, none, .mov (.v 1)⟩,
      ⟨.push, 15, none, .ixAddr 5 (.s 2) (.s 1)⟩,
      ⟨.push, 16, none, .fldAddr 0 (.s 0)⟩,
      ⟨.no, 0, none, .store 1 (.s 0) (.s 2)⟩])
   (.seq (.region false [
      ⟨.push, 17, none, .mov (.v 1)⟩,
      ⟨.push, 18, none, .bin false .add (.s 0) (.c (.int .i64 (1)))⟩,
      ⟨.var 1, 1, none, .mov (.s 0)⟩])
   (.seq (.region false [
      ⟨.push, 19, none, .mov (.v 0)⟩,
      ⟨.push, 20, none, .mov (.v 3)⟩,
      ⟨.push, 21, none, .mov (.v 1)⟩,
      ⟨.push, 22, none, .call 33 [(.s 0)]⟩,
      ⟨.push, 23, none, .ixAddr 5 (.s 3) (.s 2)⟩,
      ⟨.push, 24, none, .fldAddr 1 (.s 0)⟩,
      ⟨.no, 0, none, .store 1 (.s 0) (.s 2)⟩])
   (.seq (.region false [
      ⟨.push, 25, none, .mov (.v 1)⟩,
      ⟨.push, 26, none, .bin false .add (.s 0) (.c (.int .i64 (1)))⟩,
      ⟨.var 1, 1, none, .mov (.s 0)⟩])
   (.seq (.region false [
      ⟨.push, 27, none, .mov (.v 0)⟩,
      ⟨.push, 28, none, .mov (.v 3)⟩,
      ⟨.push, 29, none, .mov (.v 1)⟩,
      ⟨.push, 30, none, .call 33 [(.s 0)]⟩,
      ⟨.push, 31, none, .ixAddr 5 (.s 3) (.s 2)⟩,
      ⟨.push, 32, none, .fldAddr 2 (.s 0)⟩,
      ⟨.no, 0, none, .store 1 (.s 0) (.s 2)⟩])
   (.seq (.region false [
      ⟨.push, 33, none, .mov (.v 1)⟩,
      ⟨.push, 34, none, .bin false .add (.s 0) (.c (.int .i64 (1)))⟩,
      ⟨.var 1, 1, none, .mov (.s 0)⟩])
   (.seq (.region false [
      ⟨.push, 35, none, .mov (.v 0)⟩,
      ⟨.push, 36, none, .mov (.v 3)⟩,
      ⟨.push, 37, none, .mov (.v 1)⟩,
      ⟨.push, 38, none, .ixAddr 5 (.s 2) (.s 1)⟩,
      ⟨.push, 39, none, .fldAddr 3 (.s 0)⟩,
      ⟨.no, 0, none, .store 1 (.s 0) (.s 2)⟩])
   (.seq (.region false [
      ⟨.push, 40, none, .mov (.v 1)⟩,
      ⟨.push, 41, none, .bin false .add (.s 0) (.c (.int .i64 (1)))⟩,
      ⟨.var 1, 1, none, .mov (.s 0)⟩])
   (.seq (.region false [
      ⟨.push, 42, none, .mov (.v 0)⟩,
      ⟨.push, 43, none, .mov (.v 3)⟩,
      ⟨.push, 44, none, .mov (.v 1)⟩,
      ⟨.push, 45, none, .bin false .rem (.s 0) (.c (.int .i64 (3)))⟩,
      ⟨.push, 46, none, .bin false .eql (.s 0) (.c (.int .i64 (0)))⟩,
      ⟨.push, 47, none, .ixAddr 5 (.s 4) (.s 3)⟩,
      ⟨.push, 48, none, .fldAddr 4 (.s 0)⟩,
      ⟨.no, 0, none, .store 1 (.s 0) (.s 2)⟩])
   (.region false [
     ⟨.push, 49, none, .mov (.v 1)⟩,
     ⟨.push, 50, none, .bin false .add (.s 0) (.c (.int .i64 (1)))⟩,
     ⟨.var 1, 1, none, .mov (.s 0)⟩])))))))))))
 (.region false [
   ⟨.push, 10, none, .mov (.v 3)⟩,
   ⟨.push, 11, none, .bin false .add (.s 0) (.c (.int .i64 (1)))⟩,
   ⟨.var 3, 5, none, .mov (.s 0)⟩]))
def ir11_k0 : List Bool := [true, true, false, true]
def ir11_o0 : List Bool := [true, true, false, false]
def ir11_r0 : List Bool := [true, false, true, false]
def ir11_v : List Nat := [0, 1, 4, 5]
def ir11 : AFn := ⟨2, 4, .seq (.region false [
    ⟨.var 2, 4, none, .mov (.c (.int .i64 (0)))⟩])
 (.seq (.seq (.region false [
     ⟨.var 3, 5, none, .mov (.c (.int .i64 (0)))⟩])
  (.block 0 (.loop ir11_k0 ir11_o0 ir11_r0 ir11_b0)))
 (.seq (.region false [
    ⟨.push, 51, none, .mov (.v 1)⟩,
    ⟨.var 2, 4, none, .mov (.s 0)⟩])
 (.ret))), [.t 2]⟩
noncomputable def t_laws_markEstimateS : List (Nat × Ctr) := [(33, c_laws_markText)]
theorem lk_laws_markEstimateS_33 : look t_laws_markEstimateS 33 = some c_laws_markText := rfl
noncomputable def c_laws_markEstimateS : Ctr := mkN t_laws_markEstimateS ir11 [.io, .bor]
theorem s_laws_markEstimateS : Sound Try.prog 11 c_laws_markEstimateS := mkN_sound _ (snd_cons s_laws_markText snd_nil) (by kernel_rfl : chkFn Try.prog 11 ir11 ir11_v = true)
theorem M_laws_markEstimateS : c_laws_markEstimateS.modes = [.io, .bor] := rfl
theorem Fl_laws_markEstimateS : c_laws_markEstimateS.flat = false := rfl
attribute [go_sem] M_laws_markEstimateS Fl_laws_markEstimateS
attribute [go_sem] lk_laws_markEstimateS_33
def E_laws_markEstimateS_l1  : ((List Estimate) × Int × Int) → St
  | (a, k, i) => ⟨[.own 31, .int .i64 k, .any, .int .i64 i], [], [(31, ⟨5, List.map Estimate_av a⟩)], true⟩
def R_laws_markEstimateS_l1  (y : (List Estimate) × Int) : Res := (.exit 0, ⟨[.own 31, .int .i64 y.2, .any, .any], [], [(31, ⟨5, List.map Estimate_av y.1⟩)], true⟩)
theorem laws_markEstimateS_l1_ex  {sgm_ : (List Estimate) × Int × Int} {rho_ : (List Estimate) × Int} (h : whileE (laws_markEstimateS_l1) sgm_ = some rho_) : ∃ L0, ∀ L, L0 ≤ L → iter (exec (look t_laws_markEstimateS) L ir11_b0) ir11_k0 ir11_o0 ir11_r0 L (E_laws_markEstimateS_l1 sgm_) = R_laws_markEstimateS_l1 rho_ := by
  refine loop_ex (E := E_laws_markEstimateS_l1) (R := R_laws_markEstimateS_l1) (fun y => by first | (intro c; cases c) | (rcases y with y | y <;> (intro c; cases c)) | (rcases y with y | y | y <;> (intro c; cases c))) ?_ h
  clear h
  rintro ⟨a, k, i⟩ o_ h
  dsimp only [laws_markEstimateS_l1] at h
  rcases it_some h with ⟨hk1, h⟩ | ⟨hk1, h⟩
  · try simp only [go_sem, n1, n2, n3, n4] at hk1
    all_goals
    obtain ⟨hk2, h⟩ := ck_some h
    have lhk2 := ix_lt hk2
    have xhk2 := getD_mapD Estimate_av a lhk2
    try simp only [go_sem] at lhk2
    try simp only [go_sem] at xhk2
    try simp only [go_sem, n1, n2, n3, n4, hk1] at hk2
    all_goals
    obtain ⟨y_3, hk3, h⟩ := bd_some h
    have fhk3 := Fs_laws_markText hk3
    try simp only [go_sem, hk1, hk2] at fhk3
    obtain ⟨y_4, hk4, h⟩ := bd_some h
    have fhk4 := Fs_laws_markText hk4
    try simp only [go_sem, hk1, hk2] at fhk4
    obtain ⟨hk5, h⟩ := ck_some h
    try simp only [go_sem, n1, n2, n3, n4, hk1, hk2] at hk5
    all_goals
    obtain rfl := so_some h
    refine ⟨0, fun L hL => ?_⟩
    simp only [go_sem, ir11, E_laws_markEstimateS_l1, R_laws_markEstimateS_l1, ir11_b0, ir11_k0, ir11_o0, ir11_r0, hk1, hk2, lhk2, xhk2, fhk3, fhk4, hk5]
  · try simp only [go_sem, n1, n2, n3, n4] at hk1
    all_goals
    obtain rfl := so_some h
    refine ⟨0, fun L hL => ?_⟩
    simp only [go_sem, ir11, E_laws_markEstimateS_l1, R_laws_markEstimateS_l1, ir11_b0, ir11_k0, ir11_o0, ir11_r0, hk1]

theorem Fs_laws_markEstimateS {a : List Estimate} {k : Int} {y_ : Int × (List Estimate)} (h : laws_markEstimateS a k = some y_) : c_laws_markEstimateS.F [.fresh 5 (List.map Estimate_av a), .int .i64 k] = ⟨true, .int .i64 y_.1, [.fresh 5 (List.map Estimate_av y_.2), .any]⟩ := by
  refine mkN_E ?_
  dsimp only [laws_markEstimateS] at h
  obtain ⟨y_6, hk6, h⟩ := bd_some h
  obtain ⟨Lhk6, ehk6⟩ := laws_markEstimateS_l1_ex hk6
  obtain ⟨hk7, h⟩ := ck_some h
  try simp only [go_sem, n1, n2, n3, n4] at hk7
  all_goals
  obtain rfl := so_some h
  refine ⟨Lhk6, fun L hL => ?_⟩
  have ehk6 := ehk6 L (by omega)
  try simp only [go_sem, E_laws_markEstimateS_l1, R_laws_markEstimateS_l1, ir11_k0, ir11_o0, ir11_r0, hk7] at ehk6
  simp only [go_sem, ir11, E_laws_markEstimateS_l1, R_laws_markEstimateS_l1, ir11_k0, ir11_o0, ir11_r0, hk7, ehk6]


def ir17_b0 : IR := .seq (.test false [
    ⟨.push, 6, none, .mov (.v 3)⟩,
    ⟨.push, 7, none, .mov (.v 0)⟩,
    ⟨.push, 8, none, .len false (.s 0)⟩,
    ⟨.push, 9, none, .bin false .lss (.s 2) (.s 0)⟩] (.s 0)
  (.skip)
  (.exit 0))
 (.seq (.block 1 (.seq (.test false [
      ⟨.push, 12, none, .mov (.v 0)⟩,
      ⟨.push, 13, none, .mov (.v 3)⟩,
      ⟨.push, 14, none, .ixAddr 5 (.s 1) (.s 0)⟩,
      ⟨.push, 15, none, .fldAddr 0 (.s 0)⟩,
      ⟨.push, 16, none, .load false 1 (.s 0)⟩,
      ⟨.push, 17, none, .mov (.v 1)⟩,
      ⟨.push, 18, none, .bin false .neq (.s 1) (.s 0)⟩] (.s 0)
    (.seq (.region false [
        ⟨.var 2, 4, none, .mov (.c (.int .i64 (-1)))⟩])
     (.ret))
    (.skip))
   (.seq (.region false [
      ⟨.push, 19, none, .mov (.v 1)⟩,
      ⟨.push, 20, none, .bin false .add (.s 0) (.c (.int .i64 (1)))⟩,
      ⟨.var 1, 1, none, .mov (.s 0)⟩])
   (.seq (.anyo 8 [
      ⟨.slot 0, 21, none, .mov (.v 0)⟩,
      ⟨.slot 1, 22, none, .mov (.v 3)⟩,
      ⟨.slot 2, 23, none, .ixAddr 5 (.s 0) (.s 1)⟩,
      ⟨.slot 3, 24, none, .fldAddr 1 (.s 2)⟩,
      ⟨.slot 4, 25, none, .load false 1 (.s 3)⟩,
      ⟨.slot 5, 26, none, .mov (.v 1)⟩,
      ⟨.slot 6, 27, none, .callp 33 [(.s 5)]⟩,
      ⟨.slot 7, 28, none, .bin false .neq (.s 4) (.s 6)⟩] [] (.cond (.s 7)
    (.seq (.region false [
        ⟨.var 2, 4, none, .mov (.c (.int .i64 (-1)))⟩])
     (.ret))
    (.skip)))
   (.seq (.region false [
      ⟨.push, 29, none, .mov (.v 1)⟩,
      ⟨.push, 30, none, .bin false .add (.s 0) (.c (.int .i64 (1)))⟩,
      ⟨.var 1, 1, none, .mov (.s 0)⟩])
   (.seq (.anyo 8 [
      ⟨.slot 0, 31, none, .mov (.v 0)⟩,
      ⟨.slot 1, 32, none, .mov (.v 3)⟩,
      ⟨.slot 2, 33, none, .ixAddr 5 (.s 0) (.s 1)⟩,
      ⟨.slot 3, 34, none, .fldAddr 2 (.s 2)⟩,
      ⟨.slot 4, 35, none, .load false 1 (.s 3)⟩,
      ⟨.slot 5, 36, none, .mov (.v 1)⟩,
      ⟨.slot 6, 37, none, .callp 33 [(.s 5)]⟩,
      ⟨.slot 7, 38, none, .bin false .neq (.s 4) (.s 6)⟩] [] (.cond (.s 7)
    (.seq (.region false [
        ⟨.var 2, 4, none, .mov (.c (.int .i64 (-1)))⟩])
     (.ret))
    (.skip)))
   (.seq (.region false [
      ⟨.push, 39, none, .mov (.v 1)⟩,
      ⟨.push, 40, none, .bin false .add (.s 0) (.c (.int .i64 (1)))⟩,
      ⟨.var 1, 1, none, .mov (.s 0)⟩])
   (.seq (.test false [
      ⟨.push, 41, none, .mov (.v 0)⟩,
      ⟨.push, 42, none, .mov (.v 3)⟩,
      ⟨.push, 43, none, .ixAddr 5 (.s 1) (.s 0)⟩,
      ⟨.push, 44, none, .fldAddr 3 (.s 0)⟩,
      ⟨.push, 45, none, .load false 1 (.s 0)⟩,
      ⟨.push, 46, none, .mov (.v 1)⟩,
      ⟨.push, 47, none, .bin false .neq (.s 1) (.s 0)⟩] (.s 0)
    (.seq (.region false [
        ⟨.var 2, 4, none, .mov (.c (.int .i64 (-1)))⟩])
     (.ret))
    (.skip))
   (.seq (.region false [
      ⟨.push, 48, none, .mov (.v 1)⟩,
      ⟨.push, 49, none, .bin false .add (.s 0) (.c (.int .i64 (1)))⟩,
      ⟨.var 1, 1, none, .mov (.s 0)⟩])
   (.seq (.test false [
      ⟨.push, 50, none, .mov (.v 0)⟩,
      ⟨.push, 51, none, .mov (.v 3)⟩,
      ⟨.push, 52, none, .ixAddr 5 (.s 1) (.s 0)⟩,
      ⟨.push, 53, none, .fldAddr 4 (.s 0)⟩,
      ⟨.push, 54, none, .load false 1 (.s 0)⟩,
      ⟨.push, 55, none, .mov (.v 1)⟩,
      ⟨.push, 56, none, .bin false .rem (.s 0) (.c (.int .i64 (3)))⟩,
      ⟨.push, 57, none, .bin false .eql (.s 0) (.c (.int .i64 (0)))⟩,
      ⟨.push, 58, none, .bin true .neq (.s 3) (.s 0)⟩] (.s 0)
    (.seq (.region false [
        ⟨.var 2, 4, none, .mov (.c (.int .i64 (-1)))⟩])
     (.ret))
    (.skip))
   (.region false [
     ⟨.push, 59, none, .mov (.v 1)⟩,
     ⟨.push, 60, none, .bin false .add (.s 0) (.c (.int .i64 (1)))⟩,
     ⟨.var 1, 1, none, .mov (.s 0)⟩])))))))))))
 (.region false [
   ⟨.push, 10, none, .mov (.v 3)⟩,
   ⟨.push, 11, none, .bin false .add (.s 0) (.c (.int .i64 (1)))⟩,
   ⟨.var 3, 5, none, .mov (.s 0)⟩]))
def ir17_k0 : List Bool := [true, true, false, true]
def ir17_o0 : List Bool := [false, true, false, false]
def ir17_r0 : List Bool := [false, false, true, false]
def ir17_v : List Nat := [0, 1, 4, 5]
def ir17 : AFn := ⟨2, 4, .seq (.region false [
    ⟨.var 2, 4, none, .mov (.c (.int .i64 (0)))⟩])
 (.seq (.seq (.region false [
     ⟨.var 3, 5, none, .mov (.c (.int .i64 (0)))⟩])
  (.block 0 (.loop ir17_k0 ir17_o0 ir17_r0 ir17_b0)))
 (.seq (.region false [
    ⟨.push, 61, none, .mov (.v 1)⟩,
    ⟨.var 2, 4, none, .mov (.s 0)⟩])
 (.ret))), [.t 2]⟩
noncomputable def t_laws_heldEstimateS : List (Nat × Ctr) := [(33, c_laws_markText)]
theorem lk_laws_heldEstimateS_33 : look t_laws_heldEstimateS 33 = some c_laws_markText := rfl
noncomputable def c_laws_heldEstimateS : Ctr := mkF t_laws_heldEstimateS ir17 [.bor, .bor]
theorem s_laws_heldEstimateS : Sound Try.prog 17 c_laws_heldEstimateS := mkF_sound _ rfl (snd_cons s_laws_markText snd_nil) (by kernel_rfl : chkFn Try.prog 17 ir17 ir17_v = true)
theorem M_laws_heldEstimateS : c_laws_heldEstimateS.modes = [.bor, .bor] := rfl
theorem Fl_laws_heldEstimateS : c_laws_heldEstimateS.flat = true := rfl
attribute [go_sem] M_laws_heldEstimateS Fl_laws_heldEstimateS
attribute [go_sem] lk_laws_heldEstimateS_33
def E_laws_heldEstimateS_l1 (a : List Estimate) : (Int × Int) → St
  | (k, i) => ⟨[.sl 5 (List.map Estimate_av a), .int .i64 k, .any, .int .i64 i], [], [], true⟩
def R_laws_heldEstimateS_l1 (a : List Estimate) : (Int ⊕ Int) → Res
  | .inl y => (.exit 0, ⟨[.any, .int .i64 y, .any, .any], [], [], true⟩)
  | .inr y => (.ret, ⟨[.any, .any, .int .i64 y, .any], [], [], true⟩)
theorem laws_heldEstimateS_l1_ex {a : List Estimate} {sgm_ : Int × Int} {rho_ : Int ⊕ Int} (h : whileE (laws_heldEstimateS_l1 a) sgm_ = some rho_) : ∃ L0, ∀ L, L0 ≤ L → iter (exec (look t_laws_heldEstimateS) L ir17_b0) ir17_k0 ir17_o0 ir17_r0 L (E_laws_heldEstimateS_l1 a sgm_) = R_laws_heldEstimateS_l1 a rho_ := by
  refine loop_ex (E := E_laws_heldEstimateS_l1 a) (R := R_laws_heldEstimateS_l1 a) (fun y => by first | (intro c; cases c) | (rcases y with y | y <;> (intro c; cases c)) | (rcases y with y | y | y <;> (intro c; cases c))) ?_ h
  clear h
  rintro ⟨k, i⟩ o_ h
  dsimp only [laws_heldEstimateS_l1] at h
  rcases it_some h with ⟨hk1, h⟩ | ⟨hk1, h⟩
  · try simp only [go_sem, n1, n2, n3, n4] at hk1
    all_goals
    obtain ⟨hk2, h⟩ := ck_some h
    have lhk2 := ix_lt hk2
    have xhk2 := getD_mapD Estimate_av a lhk2
    try simp only [go_sem] at lhk2
    try simp only [go_sem] at xhk2
    try simp only [go_sem, n1, n2, n3, n4, hk1] at hk2
    all_goals
    rcases it_some h with ⟨hk3, h⟩ | ⟨hk3, h⟩
    · try simp only [go_sem, n1, n2, n3, n4, hk1, hk2] at hk3
      all_goals
      obtain rfl := so_some h
      refine ⟨0, fun L hL => ?_⟩
      simp only [go_sem, ir17, E_laws_heldEstimateS_l1, R_laws_heldEstimateS_l1, ir17_b0, ir17_k0, ir17_o0, ir17_r0, hk1, hk2, lhk2, xhk2, hk3]
    · try simp only [go_sem, n1, n2, n3, n4, hk1, hk2] at hk3
      all_goals
      obtain ⟨y_4, hk4, h⟩ := bd_some h
      have fhk4 := Fs_laws_markText hk4
      try simp only [go_sem, hk1, hk2, hk3] at fhk4
      rcases it_some h with ⟨hk5, h⟩ | ⟨hk5, h⟩
      · try simp only [go_sem, n1, n2, n3, n4, hk1, hk2, hk3] at hk5
        all_goals
        obtain rfl := so_some h
        refine ⟨0, fun L hL => ?_⟩
        simp only [go_sem, ir17, E_laws_heldEstimateS_l1, R_laws_heldEstimateS_l1, ir17_b0, ir17_k0, ir17_o0, ir17_r0, hk1, hk2, lhk2, xhk2, hk3, fhk4, hk5]
      · try simp only [go_sem, n1, n2, n3, n4, hk1, hk2, hk3] at hk5
        all_goals
        obtain ⟨y_6, hk6, h⟩ := bd_some h
        have fhk6 := Fs_laws_markText hk6
        try simp only [go_sem, hk1, hk2, hk3, hk5] at fhk6
        rcases it_some h with ⟨hk7, h⟩ | ⟨hk7, h⟩
        · try simp only [go_sem, n1, n2, n3, n4, hk1, hk2, hk3, hk5] at hk7
          all_goals
          obtain rfl := so_some h
          refine ⟨0, fun L hL => ?_⟩
          simp only [go_sem, ir17, E_laws_heldEstimateS_l1, R_laws_heldEstimateS_l1, ir17_b0, ir17_k0, ir17_o0, ir17_r0, hk1, hk2, lhk2, xhk2, hk3, fhk4, hk5, fhk6, hk7]
        · try simp only [go_sem, n1, n2, n3, n4, hk1, hk2, hk3, hk5] at hk7
          all_goals
          rcases it_some h with ⟨hk8, h⟩ | ⟨hk8, h⟩
          · try simp only [go_sem, n1, n2, n3, n4, hk1, hk2, hk3, hk5, hk7] at hk8
            all_goals
            obtain rfl := so_some h
            refine ⟨0, fun L hL => ?_⟩
            simp only [go_sem, ir17, E_laws_heldEstimateS_l1, R_laws_heldEstimateS_l1, ir17_b0, ir17_k0, ir17_o0, ir17_r0, hk1, hk2, lhk2, xhk2, hk3, fhk4, hk5, fhk6, hk7, hk8]
          · try simp only [go_sem, n1, n2, n3, n4, hk1, hk2, hk3, hk5, hk7] at hk8
            all_goals
            obtain ⟨hk9, h⟩ := ck_some h
            try simp only [go_sem, n1, n2, n3, n4, hk1, hk2, hk3, hk5, hk7, hk8] at hk9
            all_goals
            rcases it_some h with ⟨hk10, h⟩ | ⟨hk10, h⟩
            · try simp only [go_sem, n1, n2, n3, n4, hk1, hk2, hk3, hk5, hk7, hk8, hk9] at hk10
              all_goals
              obtain rfl := so_some h
              refine ⟨0, fun L hL => ?_⟩
              simp only [go_sem, ir17, E_laws_heldEstimateS_l1, R_laws_heldEstimateS_l1, ir17_b0, ir17_k0, ir17_o0, ir17_r0, hk1, hk2, lhk2, xhk2, hk3, fhk4, hk5, fhk6, hk7, hk8, hk9, hk10]
            · try simp only [go_sem, n1, n2, n3, n4, hk1, hk2, hk3, hk5, hk7, hk8, hk9] at hk10
              all_goals
              obtain rfl := so_some h
              refine ⟨0, fun L hL => ?_⟩
              simp only [go_sem, ir17, E_laws_heldEstimateS_l1, R_laws_heldEstimateS_l1, ir17_b0, ir17_k0, ir17_o0, ir17_r0, hk1, hk2, lhk2, xhk2, hk3, fhk4, hk5, fhk6, hk7, hk8, hk9, hk10]
  · try simp only [go_sem, n1, n2, n3, n4] at hk1
    all_goals
    obtain rfl := so_some h
    refine ⟨0, fun L hL => ?_⟩
    simp only [go_sem, ir17, E_laws_heldEstimateS_l1, R_laws_heldEstimateS_l1, ir17_b0, ir17_k0, ir17_o0, ir17_r0, hk1]

theorem Fs_laws_heldEstimateS {a : List Estimate} {k : Int} {y_ : Int} (h : laws_heldEstimateS a k = some y_) : c_laws_heldEstimateS.F [.sl 5 (List.map Estimate_av a), .int .i64 k] = ⟨true, .int .i64 y_, [.any, .any]⟩ := by
  refine mkF_E rfl ?_
  dsimp only [laws_heldEstimateS] at h
  obtain ⟨y_11, hk11, h⟩ := bd_some h
  obtain ⟨Lhk11, ehk11⟩ := laws_heldEstimateS_l1_ex hk11
  rcases y_11 with y_11a | y_11b
  · dsimp only at h
    obtain rfl := so_some h
    refine ⟨Lhk11, fun L hL => ?_⟩
    have ehk11 := ehk11 L (by omega)
    try simp only [go_sem, E_laws_heldEstimateS_l1, R_laws_heldEstimateS_l1, ir17_k0, ir17_o0, ir17_r0] at ehk11
    simp only [go_sem, ir17, E_laws_heldEstimateS_l1, R_laws_heldEstimateS_l1, ir17_k0, ir17_o0, ir17_r0, ehk11]
  · dsimp only at h
    obtain rfl := so_some h
    refine ⟨Lhk11, fun L hL => ?_⟩
    have ehk11 := ehk11 L (by omega)
    try simp only [go_sem, E_laws_heldEstimateS_l1, R_laws_heldEstimateS_l1, ir17_k0, ir17_o0, ir17_r0] at ehk11
    simp only [go_sem, ir17, E_laws_heldEstimateS_l1, R_laws_heldEstimateS_l1, ir17_k0, ir17_o0, ir17_r0, ehk11]


def ir4_v : List Nat := [0, 2, 3, 4, 5, 6, 7, 8, 9, 10, 11, 12]
def ir4 : AFn := ⟨1, 12, .seq (.region false [
    ⟨.var 1, 2, none, .mov (.c (.bool false))⟩])
 (.seq (.test false [
    ⟨.push, 13, none, .mov (.v 0)⟩,
    ⟨.push, 14, none, .len false (.s 0)⟩,
    ⟨.push, 15, none, .bin false .gtr (.s 0) (.c (.int .i64 (1048576)))⟩] (.s 0)
  (.seq (.region false [
      ⟨.var 1, 2, none, .mov (.c (.bool true))⟩])
   (.ret))
  (.skip))
 (.seq (.region false [
    ⟨.push, 17, none, .mov (.v 0)⟩,
    ⟨.push, 18, none, .call 15 [(.s 0)]⟩,
    ⟨.push, 19, none, .call 14 [(.s 0)]⟩,
    ⟨.push, 16, none, .mov (.s 0)⟩,
    ⟨.push, 20, none, .ext (.s 0) 0⟩,
    ⟨.push, 21, none, .ext (.s 1) 1⟩,
    ⟨.var 2, 3, none, .mov (.s 1)⟩,
    ⟨.var 3, 4, none, .mov (.s 0)⟩])
 (.seq (.region false [
    ⟨.push, 22, none, .mov (.v 0)⟩,
    ⟨.push, 23, none, .call 15 [(.s 0)]⟩,
    ⟨.var 4, 5, none, .mov (.s 0)⟩])
 (.seq (.region false [
    ⟨.push, 25, none, .mov (.v 4)⟩,
    ⟨.push, 26, none, .call 16 [(.s 0)]⟩,
    ⟨.push, 24, none, .mov (.s 0)⟩,
    ⟨.push, 27, none, .ext (.s 0) 0⟩,
    ⟨.push, 28, none, .ext (.s 1) 1⟩,
    ⟨.var 5, 6, none, .mov (.s 1)⟩,
    ⟨.var 6, 7, none, .mov (.s 0)⟩])
 (.seq (.test false [
    ⟨.push, 29, none, .mov (.v 5)⟩,
    ⟨.push, 30, none, .mov (.v 2)⟩,
    ⟨.push, 31, none, .call 10 [(.s 1), (.s 0)]⟩,
    ⟨.push, 32, none, .un .not (.s 0)⟩,
    ⟨.push, 33, none, .mov (.s 0)⟩,
    ⟨.push, 34, (some ((.s 0), false)), .mov (.v 6)⟩,
    ⟨.push, 35, (some ((.s 1), false)), .mov (.v 3)⟩,
    ⟨.push, 36, (some ((.s 2), false)), .bin false .neq (.s 1) (.s 0)⟩,
    ⟨.push, 37, none, .pick (.s 3) (.c (.bool true)) (.s 0)⟩] (.s 0)
  (.seq (.region false [
      ⟨.var 1, 2, none, .mov (.c (.bool false))⟩])
   (.ret))
  (.skip))
 (.seq (.test false [
    ⟨.push, 38, none, .mov (.v 4)⟩,
    ⟨.push, 39, none, .mov (.v 0)⟩,
    ⟨.push, 40, none, .call 15 [(.s 0)]⟩,
    ⟨.push, 41, none, .call 9 [(.s 2), (.s 0)]⟩,
    ⟨.push, 42, none, .un .not (.s 0)⟩] (.s 0)
  (.seq (.region false [
      ⟨.var 1, 2, none, .mov (.c (.bool false))⟩])
   (.ret))
  (.skip))
 (.seq (.region false [
    ⟨.var 7, 8, none, .mov (.c (.int .i64 (1)))⟩])
 (.seq (.region false [
    ⟨.push, 43, none, .mov (.v 4)⟩,
    ⟨.push, 44, none, .mov (.v 7)⟩,
    ⟨.push, 45, none, .call 12 [(.s 1), (.s 0)]⟩,
    ⟨.var 7, 8, none, .mov (.s 0)⟩])
 (.seq (.test false [
    ⟨.push, 46, none, .mov (.v 7)⟩,
    ⟨.push, 47, none, .bin false .lss (.s 0) (.c (.int .i64 (0)))⟩,
    ⟨.push, 48, none, .mov (.s 0)⟩,
    ⟨.push, 49, (some ((.s 0), false)), .mov (.v 5)⟩,
    ⟨.push, 50, (some ((.s 1), false)), .mov (.v 2)⟩,
    ⟨.push, 51, (some ((.s 2), false)), .call 10 [(.s 1), (.s 0)]⟩,
    ⟨.push, 52, (some ((.s 3), false)), .un .not (.s 0)⟩,
    ⟨.push, 53, none, .pick (.s 4) (.c (.bool true)) (.s 0)⟩,
    ⟨.push, 54, none, .mov (.s 0)⟩,
    ⟨.push, 55, (some ((.s 0), false)), .mov (.v 6)⟩,
    ⟨.push, 56, (some ((.s 1), false)), .mov (.v 3)⟩,
    ⟨.push, 57, (some ((.s 2), false)), .bin false .neq (.s 1) (.s 0)⟩,
    ⟨.push, 58, none, .pick (.s 3) (.c (.bool true)) (.s 0)⟩] (.s 0)
  (.seq (.region false [
      ⟨.var 1, 2, none, .mov (.c (.bool false))⟩])
   (.ret))
  (.skip))
 (.seq (.region false [
    ⟨.var 8, 9, none, .mov (.c (.int .i64 (1)))⟩])
 (.seq (.region false [
    ⟨.push, 59, none, .mov (.v 5)⟩,
    ⟨.push, 60, none, .mov (.v 8)⟩,
    ⟨.push, 61, none, .call 11 [(.s 1), (.s 0)]⟩,
    ⟨.var 8, 9, none, .mov (.s 0)⟩])
 (.seq (.region false [
    ⟨.var 9, 10, none, .mov (.c (.int .i64 (1)))⟩])
 (.seq (.region false [
    ⟨.push, 62, none, .mov (.v 5)⟩,
    ⟨.push, 63, none, .mov (.v 9)⟩,
    ⟨.push, 64, none, .call 17 [(.s 1), (.s 0)]⟩,
    ⟨.var 9, 10, none, .mov (.s 0)⟩])
 (.seq (.test false [
    ⟨.push, 65, none, .mov (.v 9)⟩,
    ⟨.push, 66, none, .bin false .lss (.s 0) (.c (.int .i64 (0)))⟩] (.s 0)
  (.seq (.region false [
      ⟨.var 1, 2, none, .mov (.c (.bool false))⟩])
   (.ret))
  (.skip))
 (.seq (.test false [
    ⟨.push, 67, none, .mov (.v 9)⟩,
    ⟨.push, 68, none, .mov (.v 8)⟩,
    ⟨.push, 69, none, .bin false .neq (.s 1) (.s 0)⟩] (.s 0)
  (.seq (.region false [
      ⟨.var 1, 2, none, .mov (.c (.bool false))⟩])
   (.ret))
  (.skip))
 (.seq (.region false [
    ⟨.push, 71, none, .mov (.v 0)⟩,
    ⟨.push, 72, none, .call 15 [(.s 0)]⟩,
    ⟨.push, 73, none, .call 16 [(.s 0)]⟩,
    ⟨.push, 70, none, .mov (.s 0)⟩,
    ⟨.push, 74, none, .ext (.s 0) 0⟩,
    ⟨.push, 75, none, .ext (.s 1) 1⟩,
    ⟨.var 10, 11, none, .mov (.s 1)⟩,
    ⟨.var 11, 12, none, .mov (.s 0)⟩])
 (.seq (.test false [
    ⟨.push, 76, none, .mov (.v 10)⟩,
    ⟨.push, 77, none, .mov (.v 2)⟩,
    ⟨.push, 78, none, .call 10 [(.s 1), (.s 0)]⟩,
    ⟨.push, 79, none, .un .not (.s 0)⟩,
    ⟨.push, 80, none, .mov (.s 0)⟩,
    ⟨.push, 81, (some ((.s 0), false)), .mov (.v 11)⟩,
    ⟨.push, 82, (some ((.s 1), false)), .mov (.v 3)⟩,
    ⟨.push, 83, (some ((.s 2), false)), .bin false .neq (.s 1) (.s 0)⟩,
    ⟨.push, 84, none, .pick (.s 3) (.c (.bool true)) (.s 0)⟩] (.s 0)
  (.seq (.region false [
      ⟨.var 1, 2, none, .mov (.c (.bool false))⟩])
   (.ret))
  (.skip))
 (.seq (.region false [
    ⟨.var 9, 10, none, .mov (.c (.int .i64 (1)))⟩])
 (.seq (.region false [
    ⟨.push, 85, none, .mov (.v 5)⟩,
    ⟨.push, 86, none, .mov (.v 9)⟩,
    ⟨.push, 87, none, .call 17 [(.s 1), (.s 0)]⟩,
    ⟨.var 9, 10, none, .mov (.s 0)⟩])
 (.seq (.test false [
    ⟨.push, 88, none, .mov (.v 9)⟩,
    ⟨.push, 89, none, .bin false .lss (.s 0) (.c (.int .i64 (0)))⟩] (.s 0)
  (.seq (.region false [
      ⟨.var 1, 2, none, .mov (.c (.bool false))⟩])
   (.ret))
  (.skip))
 (.seq (.test false [
    ⟨.push, 90, none, .mov (.v 9)⟩,
    ⟨.push, 91, none, .mov (.v 8)⟩,
    ⟨.push, 92, none, .bin false .neq (.s 1) (.s 0)⟩] (.s 0)
  (.seq (.region false [
      ⟨.var 1, 2, none, .mov (.c (.bool false))⟩])
   (.ret))
  (.skip))
 (.seq (.region false [
    ⟨.var 1, 2, none, .mov (.c (.bool true))⟩])
 (.ret))))))))))))))))))))))), [.t 1]⟩
noncomputable def t_laws_FnExactUnpackEstimates : List (Nat × Ctr) := [(15, c_laws_toByteS), (14, c_spec_UnpackEstimates), (16, c_impl_UnpackEstimates), (10, c_laws_eqEstimateS), (9, c_laws_eqByteS), (12, c_laws_markByteS), (11, c_laws_markEstimateS), (17, c_laws_heldEstimateS)]
theorem lk_laws_FnExactUnpackEstimates_15 : look t_laws_FnExactUnpackEstimates 15 = some c_laws_toByteS := rfl
theorem lk_laws_FnExactUnpackEstimates_14 : look t_laws_FnExactUnpackEstimates 14 = some c_spec_UnpackEstimates := rfl
theorem lk_laws_FnExactUnpackEstimates_16 : look t_laws_FnExactUnpackEstimates 16 = some c_impl_UnpackEstimates := rfl
theorem lk_laws_FnExactUnpackEstimates_10 : look t_laws_FnExactUnpackEstimates 10 = some c_laws_eqEstimateS := rfl
theorem lk_laws_FnExactUnpackEstimates_9 : look t_laws_FnExactUnpackEstimates 9 = some c_laws_eqByteS := rfl
theorem lk_laws_FnExactUnpackEstimates_12 : look t_laws_FnExactUnpackEstimates 12 = some c_laws_markByteS := rfl
theorem lk_laws_FnExactUnpackEstimates_11 : look t_laws_FnExactUnpackEstimates 11 = some c_laws_markEstimateS := rfl
theorem lk_laws_FnExactUnpackEstimates_17 : look t_laws_FnExactUnpackEstimates 17 = some c_laws_heldEstimateS := rfl
noncomputable def c_laws_FnExactUnpackEstimates : Ctr := mkF t_laws_FnExactUnpackEstimates ir4 [.bor]
theorem s_laws_FnExactUnpackEstimates : Sound Try.prog 4 c_laws_FnExactUnpackEstimates := mkF_sound _ rfl (snd_cons s_laws_toByteS (snd_cons s_spec_UnpackEstimates (snd_cons s_impl_UnpackEstimates (snd_cons s_laws_eqEstimateS (snd_cons s_laws_eqByteS (snd_cons s_laws_markByteS (snd_cons s_laws_markEstimateS (snd_cons s_laws_heldEstimateS snd_nil)))))))) (by kernel_rfl : chkFn Try.prog 4 ir4 ir4_v = true)
theorem M_laws_FnExactUnpackEstimates : c_laws_FnExactUnpackEstimates.modes = [.bor] := rfl
theorem Fl_laws_FnExactUnpackEstimates : c_laws_FnExactUnpackEstimates.flat = true := rfl
attribute [go_sem] M_laws_FnExactUnpackEstimates Fl_laws_FnExactUnpackEstimates
attribute [go_sem] lk_laws_FnExactUnpackEstimates_15 lk_laws_FnExactUnpackEstimates_14 lk_laws_FnExactUnpackEstimates_16 lk_laws_FnExactUnpackEstimates_10 lk_laws_FnExactUnpackEstimates_9 lk_laws_FnExactUnpackEstimates_12 lk_laws_FnExactUnpackEstimates_11 lk_laws_FnExactUnpackEstimates_17
theorem Fs_laws_FnExactUnpackEstimates {aB : List UInt8} {y_ : Bool} (h : laws_FnExactUnpackEstimates aB = some y_) : c_laws_FnExactUnpackEstimates.F [.sl 1 (List.map byteAV aB)] = ⟨true, .bool y_, [.any]⟩ := by
  refine mkF_E rfl ?_
  dsimp only [laws_FnExactUnpackEstimates] at h
  rcases it_some h with ⟨hk1, h⟩ | ⟨hk1, h⟩
  · try simp only [go_sem, n1, n2, n3, n4] at hk1
    all_goals
    obtain rfl := so_some h
    refine ⟨0, fun L hL => ?_⟩
    simp only [go_sem, ir4, hk1]
  · try simp only [go_sem, n1, n2, n3, n4] at hk1
    all_goals
    obtain ⟨y_2, hk2, h⟩ := bd_some h
    have fhk2 := Fs_laws_toByteS hk2
    try simp only [go_sem, hk1] at fhk2
    obtain ⟨y_3, hk3, h⟩ := bd_some h
    have fhk3 := Fs_spec_UnpackEstimates hk3
    try simp only [go_sem, hk1] at fhk3
    obtain ⟨y_4, hk4, h⟩ := bd_some h
    have fhk4 := Fs_impl_UnpackEstimates hk4
    try simp only [go_sem, hk1] at fhk4
    obtain ⟨y_5, hk5, h⟩ := bd_some h
    have fhk5 := Fs_laws_eqEstimateS hk5
    try simp only [go_sem, hk1] at fhk5
    rcases it_some h with ⟨hk6, h⟩ | ⟨hk6, h⟩
    · try simp only [go_sem, n1, n2, n3, n4, hk1] at hk6
      all_goals
      obtain rfl := so_some h
      refine ⟨0, fun L hL => ?_⟩
      simp only [go_sem, ir4, hk1, fhk2, fhk3, fhk4, fhk5, hk6]
    · try simp only [go_sem, n1, n2, n3, n4, hk1] at hk6
      all_goals
      obtain ⟨y_7, hk7, h⟩ := bd_some h
      have fhk7 := Fs_laws_eqByteS hk7
      try simp only [go_sem, hk1, hk6] at fhk7
      rcases it_some h with ⟨hk8, h⟩ | ⟨hk8, h⟩
      · try simp only [go_sem, n1, n2, n3, n4, hk1, hk6] at hk8
        all_goals
        obtain rfl := so_some h
        refine ⟨0, fun L hL => ?_⟩
        simp only [go_sem, ir4, hk1, fhk2, fhk3, fhk4, fhk5, hk6, fhk7, hk8]
      · try simp only [go_sem, n1, n2, n3, n4, hk1, hk6] at hk8
        all_goals
        obtain ⟨y_9, hk9, h⟩ := bd_some h
        have fhk9 := Fs_laws_markByteS hk9
        try simp only [go_sem, hk1, hk6, hk8] at fhk9
        rcases it_some h with ⟨hk11, h⟩ | ⟨hk11, h⟩
        · try simp only [go_sem, n1, n2, n3, n4, hk1, hk6, hk8] at hk11
          all_goals
          obtain rfl := so_some h
          refine ⟨0, fun L hL => ?_⟩
          simp only [go_sem, ir4, hk1, fhk2, fhk3, fhk4, fhk5, hk6, fhk7, hk8, fhk9, hk11]
        · try simp only [go_sem, n1, n2, n3, n4, hk1, hk6, hk8] at hk11
          all_goals
          obtain ⟨y_12, hk12, h⟩ := bd_some h
          have fhk12 := Fs_laws_markEstimateS hk12
          try simp only [go_sem, hk1, hk6, hk8, hk11] at fhk12
          obtain ⟨y_13, hk13, h⟩ := bd_some h
          have fhk13 := Fs_laws_heldEstimateS hk13
          try simp only [go_sem, hk1, hk6, hk8, hk11] at fhk13
          rcases it_some h with ⟨hk14, h⟩ | ⟨hk14, h⟩
          · try simp only [go_sem, n1, n2, n3, n4, hk1, hk6, hk8, hk11] at hk14
            all_goals
            obtain rfl := so_some h
            refine ⟨0, fun L hL => ?_⟩
            simp only [go_sem, ir4, hk1, fhk2, fhk3, fhk4, fhk5, hk6, fhk7, hk8, fhk9, hk11, fhk12, fhk13, hk14]
          · try simp only [go_sem, n1, n2, n3, n4, hk1, hk6, hk8, hk11] at hk14
            all_goals
            rcases it_some h with ⟨hk15, h⟩ | ⟨hk15, h⟩
            · try simp only [go_sem, n1, n2, n3, n4, hk1, hk6, hk8, hk11, hk14] at hk15
              all_goals
              obtain rfl := so_some h
              refine ⟨0, fun L hL => ?_⟩
              simp only [go_sem, ir4, hk1, fhk2, fhk3, fhk4, fhk5, hk6, fhk7, hk8, fhk9, hk11, fhk12, fhk13, hk14, hk15]
            · try simp only [go_sem, n1, n2, n3, n4, hk1, hk6, hk8, hk11, hk14] at hk15
              all_goals
              obtain rfl := so_some h
              refine ⟨0, fun L hL => ?_⟩
              simp only [go_sem, ir4, hk1, fhk2, fhk3, fhk4, fhk5, hk6, fhk7, hk8, fhk9, hk11, fhk12, fhk13, hk14, hk15]


end Go.Proofs.Ytgbopjgnggdhkaa
