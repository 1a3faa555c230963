/- Codes and contracts of the functions that A6 reaches, and that their typed forms say what they do. No condition. -/
import Derived.Test.YtgbibhhblimfiabA6Ka
import Derived.Test.YtgbibhhblimfiabRows
import Derived.WalkKit
namespace Go.Proofs.Ytgbibhhblimfiab
open Go Go.RowKit
set_option linter.unusedVariables false
set_option linter.unusedSimpArgs false
set_option maxRecDepth 10000

def ir90_b0 : IR := .seq (.region false [
    ⟨.var 8, 10, none, .bin false .lss (.v 7) (.v 6)⟩])
 (.seq (.cond (.v 8) (.skip)
  (.exit 0))
 (.seq (.block 1 (.seq (.region false [
      ⟨.push, 11, none, .mov (.v 7)⟩,
      ⟨.push, 12, none, .ixAddr 2 (.v 5) (.v 7)⟩,
      ⟨.push, 13, none, .load true 2 (.s 0)⟩,
      ⟨.var 4, 6, none, .alloc (.agg [.int .i64 (0), .int .i64 (0)])⟩,
      ⟨.var 3, 5, none, .mov (.s 2)⟩,
      ⟨.no, 0, none, .store 2 (.v 4) (.s 0)⟩])
   (.seq (.test false [
      ⟨.push, 14, none, .fldAddr 0 (.v 4)⟩,
      ⟨.push, 15, none, .load false 1 (.s 0)⟩,
      ⟨.push, 16, none, .mov (.v 1)⟩,
      ⟨.push, 17, none, .bin false .sub (.s 0) (.c (.int .i64 (1)))⟩,
      ⟨.push, 18, none, .call 45 [(.s 2), (.c (.int .i64 (0))), (.s 0)]⟩,
      ⟨.push, 19, none, .un .not (.s 0)⟩,
      ⟨.push, 20, none, .mov (.s 0)⟩,
      ⟨.push, 21, (some ((.s 0), false)), .fldAddr 1 (.v 4)⟩,
      ⟨.push, 22, (some ((.s 1), false)), .load false 1 (.s 0)⟩,
      ⟨.push, 23, (some ((.s 2), false)), .call 45 [(.s 0), (.c (.int .i64 (1))), (.c (.int .i64 (5)))]⟩,
      ⟨.push, 24, (some ((.s 3), false)), .un .not (.s 0)⟩,
      ⟨.push, 25, none, .pick (.s 4) (.c (.bool true)) (.s 0)⟩] (.s 0)
    (.seq (.region false [
        ⟨.var 2, 4, none, .mov (.c (.bool false))⟩])
     (.ret))
    (.skip))
   (.anyo 35 [
     ⟨.slot 0, 26, none, .mov (.v 3)⟩,
     ⟨.slot 1, 27, none, .bin false .gtr (.s 0) (.c (.int .i64 (0)))⟩,
     ⟨.slot 2, 28, none, .mov (.s 1)⟩,
     ⟨.slot 3, 29, (some ((.s 2), true)), .mov (.v 0)⟩,
     ⟨.slot 4, 30, (some ((.s 2), true)), .mov (.v 3)⟩,
     ⟨.slot 5, 31, (some ((.s 2), true)), .bin false .sub (.s 4) (.c (.int .i64 (1)))⟩,
     ⟨.slot 6, 32, (some ((.s 2), true)), .ixAddr 2 (.s 3) (.s 5)⟩,
     ⟨.slot 7, 33, (some ((.s 2), true)), .fldAddr 0 (.s 6)⟩,
     ⟨.slot 8, 34, (some ((.s 2), true)), .load false 1 (.s 7)⟩,
     ⟨.slot 9, 35, (some ((.s 2), true)), .fldAddr 0 (.v 4)⟩,
     ⟨.slot 10, 36, (some ((.s 2), true)), .load false 1 (.s 9)⟩,
     ⟨.slot 11, 37, (some ((.s 2), true)), .bin false .gtr (.s 8) (.s 10)⟩,
     ⟨.slot 12, 38, (some ((.s 2), true)), .mov (.s 11)⟩,
     ⟨.slot 13, 39, (some ((.s 12), false)), .mov (.v 0)⟩,
     ⟨.slot 14, 40, (some ((.s 12), false)), .mov (.v 3)⟩,
     ⟨.slot 15, 41, (some ((.s 12), false)), .bin false .sub (.s 14) (.c (.int .i64 (1)))⟩,
     ⟨.slot 16, 42, (some ((.s 12), false)), .ixAddr 2 (.s 13) (.s 15)⟩,
     ⟨.slot 17, 43, (some ((.s 12), false)), .fldAddr 0 (.s 16)⟩,
     ⟨.slot 18, 44, (some ((.s 12), false)), .load false 1 (.s 17)⟩,
     ⟨.slot 19, 45, (some ((.s 12), false)), .fldAddr 0 (.v 4)⟩,
     ⟨.slot 20, 46, (some ((.s 12), false)), .load false 1 (.s 19)⟩,
     ⟨.slot 21, 47, (some ((.s 12), false)), .bin false .eql (.s 18) (.s 20)⟩,
     ⟨.slot 22, 48, (some ((.s 12), false)), .mov (.s 21)⟩,
     ⟨.slot 23, 49, (some ((.s 22), true)), .mov (.v 0)⟩,
     ⟨.slot 24, 50, (some ((.s 22), true)), .mov (.v 3)⟩,
     ⟨.slot 25, 51, (some ((.s 22), true)), .bin false .sub (.s 24) (.c (.int .i64 (1)))⟩,
     ⟨.slot 26, 52, (some ((.s 22), true)), .ixAddr 2 (.s 23) (.s 25)⟩,
     ⟨.slot 27, 53, (some ((.s 22), true)), .fldAddr 1 (.s 26)⟩,
     ⟨.slot 28, 54, (some ((.s 22), true)), .load false 1 (.s 27)⟩,
     ⟨.slot 29, 55, (some ((.s 22), true)), .fldAddr 1 (.v 4)⟩,
     ⟨.slot 30, 56, (some ((.s 22), true)), .load false 1 (.s 29)⟩,
     ⟨.slot 31, 57, (some ((.s 22), true)), .bin false .geq (.s 28) (.s 30)⟩,
     ⟨.slot 32, 58, (some ((.s 12), false)), .pick (.s 22) (.s 31) (.c (.bool false))⟩,
     ⟨.slot 33, 59, (some ((.s 2), true)), .pick (.s 12) (.c (.bool true)) (.s 32)⟩,
     ⟨.slot 34, 60, none, .pick (.s 2) (.s 33) (.c (.bool false))⟩] [] (.cond (.s 34)
   (.seq (.region false [
       ⟨.var 2, 4, none, .mov (.c (.bool false))⟩])
    (.ret))
   (.skip))))))
 (.region false [
   ⟨.push, 61, none, .bin false .add (.v 7) (.c (.int .i64 (1)))⟩,
   ⟨.var 7, 9, none, .mov (.s 0)⟩])))
def ir90_k0 : List Bool := [true, true, false, false, false, true, true, true, false]
def ir90_o0 : List Bool := [false, false, false, false, false, false, false, false, false]
def ir90_r0 : List Bool := [false, false, true, false, false, false, false, false, false]
def ir90_v : List Nat := [0, 1, 4, 5, 6, 7, 8, 9, 10]
def ir90 : AFn := ⟨2, 9, .seq (.region false [
    ⟨.var 2, 4, none, .mov (.c (.bool false))⟩])
 (.seq (.seq (.region false [
     ⟨.var 5, 7, none, .mov (.v 0)⟩,
     ⟨.var 6, 8, none, .len false (.v 5)⟩,
     ⟨.var 7, 9, none, .mov (.c (.int .i64 (0)))⟩])
  (.block 0 (.loop ir90_k0 ir90_o0 ir90_r0 ir90_b0)))
 (.seq (.region false [
    ⟨.var 2, 4, none, .mov (.c (.bool true))⟩])
 (.ret))), [.t 2]⟩
noncomputable def t_impl_ordered : List (Nat × Ctr) := [(45, c_impl_in)]
theorem lk_impl_ordered_45 : look t_impl_ordered 45 = some c_impl_in := rfl
noncomputable def c_impl_ordered : Ctr := mkF t_impl_ordered ir90 [.bor, .bor]
theorem s_impl_ordered : Sound Try.prog 90 c_impl_ordered := mkF_sound _ rfl (snd_cons s_impl_in snd_nil) (by kernel_rfl : chkFn Try.prog 90 ir90 ir90_v = true)
theorem M_impl_ordered : c_impl_ordered.modes = [.bor, .bor] := rfl
theorem Fl_impl_ordered : c_impl_ordered.flat = true := rfl
attribute [go_sem] M_impl_ordered Fl_impl_ordered
attribute [go_sem] lk_impl_ordered_45
def E_impl_ordered_l1 (faults : List Fault) (estimates : Int) (t7 : List Fault) (t8 : Int) : Int → St
  | t9 => ⟨[.sl 2 (List.map Fault_av faults), .int .i64 estimates, .any, .any, .any, .sl 2 (List.map Fault_av t7), .int .i64 t8, .int .i64 t9, .any], [], [], true⟩
def R_impl_ordered_l1 (faults : List Fault) (estimates : Int) (t7 : List Fault) (t8 : Int) : (Unit ⊕ Bool) → Res
  | .inl y => (.exit 0, ⟨[.any, .any, .any, .any, .any, .any, .any, .any, .any], [], [], true⟩)
  | .inr y => (.ret, ⟨[.any, .any, .bool y, .any, .any, .any, .any, .any, .any], [], [], true⟩)
theorem impl_ordered_l1_ex {faults : List Fault} {estimates : Int} {t7 : List Fault} {t8 : Int} {sgm_ : Int} {rho_ : Unit ⊕ Bool} (h : whileE (impl_ordered_l1 faults estimates t7 t8) sgm_ = some rho_) : ∃ L0, ∀ L, L0 ≤ L → iter (exec (look t_impl_ordered) L ir90_b0) ir90_k0 ir90_o0 ir90_r0 L (E_impl_ordered_l1 faults estimates t7 t8 sgm_) = R_impl_ordered_l1 faults estimates t7 t8 rho_ := by
  refine loop_ex (E := E_impl_ordered_l1 faults estimates t7 t8) (R := R_impl_ordered_l1 faults estimates t7 t8) (fun y => by first | (intro c; cases c) | (rcases y with y | y <;> (intro c; cases c)) | (rcases y with y | y | y <;> (intro c; cases c))) ?_ h
  clear h
  intro t9 o_ h
  dsimp only [impl_ordered_l1] at h
  rcases it_some h with ⟨hk1, h⟩ | ⟨hk1, h⟩
  · try simp only [go_sem, n1, n2, n3, n4] at hk1
    all_goals
    obtain ⟨hk2, h⟩ := ck_some h
    have lhk2 := ix_lt hk2
    have xhk2 := getD_mapD Fault_av t7 lhk2
    try simp only [go_sem] at lhk2
    try simp only [go_sem] at xhk2
    try simp only [go_sem, n1, n2, n3, n4, hk1] at hk2
    all_goals
    obtain ⟨y_3, hk3, h⟩ := bd_some h
    have fhk3 := Fs_impl_in hk3
    try simp only [go_sem] at fhk3
    obtain ⟨hk4, h⟩ := ck_some h
    rcases or_split hk4 with ⟨ghk4, hk4⟩ | ghk4
    · try simp only [go_sem, n1, n2, n3, n4, hk1, hk2] at ghk4
      all_goals
      obtain ⟨y_4, hhk4⟩ := Option.isSome_iff_exists.1 hk4
      have fhk4 := Fs_impl_in hhk4
      try simp only [go_sem] at fhk4
      rcases it_some h with ⟨hk5, h⟩ | ⟨hk5, h⟩
      · try simp only [go_sem, n1, n2, n3, n4, hk1, hk2, ghk4, hhk4] at hk5
        all_goals
        obtain rfl := so_some h
        refine ⟨0, fun L hL => ?_⟩
        simp only [go_sem, ir90, E_impl_ordered_l1, R_impl_ordered_l1, ir90_b0, ir90_k0, ir90_o0, ir90_r0, hk1, hk2, lhk2, xhk2, fhk3, ghk4, hhk4, fhk4, hk5]
      · try simp only [go_sem, n1, n2, n3, n4, hk1, hk2, ghk4, hhk4] at hk5
        all_goals
        obtain ⟨hk6, h⟩ := ck_some h
        rcases or_split hk6 with ⟨ghk6, hk6⟩ | ghk6
        · try simp only [go_sem, n1, n2, n3, n4, hk1, hk2, ghk4, hhk4, hk5] at ghk6
          all_goals
          have lhk6 := ix_lt hk6
          have xhk6 := getD_mapD Fault_av faults lhk6
          try simp only [go_sem] at lhk6
          try simp only [go_sem] at xhk6
          try simp only [go_sem, n1, n2, n3, n4, hk1, hk2, ghk4, hhk4, hk5, ghk6] at hk6
          all_goals
          obtain ⟨hk7, h⟩ := ck_some h
          rcases or_split hk7 with ⟨ghk7, hk7⟩ | ghk7
          · try simp only [go_sem, n1, n2, n3, n4, hk1, hk2, ghk4, hhk4, hk5, ghk6, hk6] at ghk7
            all_goals
            have lhk7 := ix_lt hk7
            have xhk7 := getD_mapD Fault_av faults lhk7
            try simp only [go_sem] at lhk7
            try simp only [go_sem] at xhk7
            try simp only [go_sem, n1, n2, n3, n4, hk1, hk2, ghk4, hhk4, hk5, ghk6, hk6, ghk7] at hk7
            all_goals
            obtain ⟨hk8, h⟩ := ck_some h
            rcases or_split hk8 with ⟨ghk8, hk8⟩ | ghk8
            · try simp only [go_sem, n1, n2, n3, n4, hk1, hk2, ghk4, hhk4, hk5, ghk6, hk6, ghk7, hk7] at ghk8
              all_goals
              have lhk8 := ix_lt hk8
              have xhk8 := getD_mapD Fault_av faults lhk8
              try simp only [go_sem] at lhk8
              try simp only [go_sem] at xhk8
              try simp only [go_sem, n1, n2, n3, n4, hk1, hk2, ghk4, hhk4, hk5, ghk6, hk6, ghk7, hk7, ghk8] at hk8
              all_goals
              rcases it_some h with ⟨hk9, h⟩ | ⟨hk9, h⟩
              · try simp only [go_sem, n1, n2, n3, n4, hk1, hk2, ghk4, hhk4, hk5, ghk6, hk6, ghk7, hk7, ghk8, hk8] at hk9
                all_goals
                obtain rfl := so_some h
                refine ⟨0, fun L hL => ?_⟩
                simp only [go_sem, ir90, E_impl_ordered_l1, R_impl_ordered_l1, ir90_b0, ir90_k0, ir90_o0, ir90_r0, hk1, hk2, lhk2, xhk2, fhk3, ghk4, hhk4, fhk4, hk5, ghk6, hk6, lhk6, xhk6, ghk7, hk7, lhk7, xhk7, ghk8, hk8, lhk8, xhk8, hk9]
              · try simp only [go_sem, n1, n2, n3, n4, hk1, hk2, ghk4, hhk4, hk5, ghk6, hk6, ghk7, hk7, ghk8, hk8] at hk9
                all_goals
                obtain rfl := so_some h
                refine ⟨0, fun L hL => ?_⟩
                simp only [go_sem, ir90, E_impl_ordered_l1, R_impl_ordered_l1, ir90_b0, ir90_k0, ir90_o0, ir90_r0, hk1, hk2, lhk2, xhk2, fhk3, ghk4, hhk4, fhk4, hk5, ghk6, hk6, lhk6, xhk6, ghk7, hk7, lhk7, xhk7, ghk8, hk8, lhk8, xhk8, hk9]
            · rcases and_f ghk8 with ghk8a | ⟨ghk8a, ghk8b⟩
              · rcases and_f ghk8a with ghk8aa | ⟨ghk8aa, ghk8ab⟩
                · try simp only [go_sem, n1, n2, n3, n4, hk1, hk2, ghk4, hhk4, hk5, ghk6, hk6, ghk7, hk7] at ghk8aa
                  all_goals
                  rcases it_some h with ⟨hk9, h⟩ | ⟨hk9, h⟩
                  · try simp only [go_sem, n1, n2, n3, n4, hk1, hk2, ghk4, hhk4, hk5, ghk6, hk6, ghk7, hk7, ghk8aa] at hk9
                    all_goals
                    obtain rfl := so_some h
                    refine ⟨0, fun L hL => ?_⟩
                    simp only [go_sem, ir90, E_impl_ordered_l1, R_impl_ordered_l1, ir90_b0, ir90_k0, ir90_o0, ir90_r0, hk1, hk2, lhk2, xhk2, fhk3, ghk4, hhk4, fhk4, hk5, ghk6, hk6, lhk6, xhk6, ghk7, hk7, lhk7, xhk7, ghk8aa, hk9]
                  · try simp only [go_sem, n1, n2, n3, n4, hk1, hk2, ghk4, hhk4, hk5, ghk6, hk6, ghk7, hk7, ghk8aa] at hk9
                    all_goals
                    obtain rfl := so_some h
                    refine ⟨0, fun L hL => ?_⟩
                    simp only [go_sem, ir90, E_impl_ordered_l1, R_impl_ordered_l1, ir90_b0, ir90_k0, ir90_o0, ir90_r0, hk1, hk2, lhk2, xhk2, fhk3, ghk4, hhk4, fhk4, hk5, ghk6, hk6, lhk6, xhk6, ghk7, hk7, lhk7, xhk7, ghk8aa, hk9]
                · have ghk8abn := no_f ghk8ab
                  try simp only [go_sem, n1, n2, n3, n4, hk1, hk2, ghk4, hhk4, hk5, ghk6, hk6, ghk7, hk7] at ghk8aa
                  all_goals
                  try simp only [go_sem, n1, n2, n3, n4, hk1, hk2, ghk4, hhk4, hk5, ghk6, hk6, ghk7, hk7, ghk8aa] at ghk8abn
                  all_goals
                  rcases it_some h with ⟨hk9, h⟩ | ⟨hk9, h⟩
                  · try simp only [go_sem, n1, n2, n3, n4, hk1, hk2, ghk4, hhk4, hk5, ghk6, hk6, ghk7, hk7, ghk8aa, ghk8abn] at hk9
                    all_goals
                    obtain rfl := so_some h
                    refine ⟨0, fun L hL => ?_⟩
                    simp only [go_sem, ir90, E_impl_ordered_l1, R_impl_ordered_l1, ir90_b0, ir90_k0, ir90_o0, ir90_r0, hk1, hk2, lhk2, xhk2, fhk3, ghk4, hhk4, fhk4, hk5, ghk6, hk6, lhk6, xhk6, ghk7, hk7, lhk7, xhk7, ghk8aa, ghk8abn, hk9]
                  · try simp only [go_sem, n1, n2, n3, n4, hk1, hk2, ghk4, hhk4, hk5, ghk6, hk6, ghk7, hk7, ghk8aa, ghk8abn] at hk9
                    all_goals
                    obtain rfl := so_some h
                    refine ⟨0, fun L hL => ?_⟩
                    simp only [go_sem, ir90, E_impl_ordered_l1, R_impl_ordered_l1, ir90_b0, ir90_k0, ir90_o0, ir90_r0, hk1, hk2, lhk2, xhk2, fhk3, ghk4, hhk4, fhk4, hk5, ghk6, hk6, lhk6, xhk6, ghk7, hk7, lhk7, xhk7, ghk8aa, ghk8abn, hk9]
              · obtain ⟨ghk8aa, ghk8ab⟩ := and_t ghk8a
                have ghk8abn := no_t ghk8ab
                try simp only [go_sem, n1, n2, n3, n4, hk1, hk2, ghk4, hhk4, hk5, ghk6, hk6, ghk7, hk7] at ghk8aa
                all_goals
                try simp only [go_sem, n1, n2, n3, n4, hk1, hk2, ghk4, hhk4, hk5, ghk6, hk6, ghk7, hk7, ghk8aa] at ghk8abn
                all_goals
                try simp only [go_sem, n1, n2, n3, n4, hk1, hk2, ghk4, hhk4, hk5, ghk6, hk6, ghk7, hk7, ghk8aa, ghk8abn] at ghk8b
                all_goals
                rcases it_some h with ⟨hk9, h⟩ | ⟨hk9, h⟩
                · try simp only [go_sem, n1, n2, n3, n4, hk1, hk2, ghk4, hhk4, hk5, ghk6, hk6, ghk7, hk7, ghk8aa, ghk8abn, ghk8b] at hk9
                  all_goals
                  obtain rfl := so_some h
                  refine ⟨0, fun L hL => ?_⟩
                  simp only [go_sem, ir90, E_impl_ordered_l1, R_impl_ordered_l1, ir90_b0, ir90_k0, ir90_o0, ir90_r0, hk1, hk2, lhk2, xhk2, fhk3, ghk4, hhk4, fhk4, hk5, ghk6, hk6, lhk6, xhk6, ghk7, hk7, lhk7, xhk7, ghk8aa, ghk8abn, ghk8b, hk9]
                · try simp only [go_sem, n1, n2, n3, n4, hk1, hk2, ghk4, hhk4, hk5, ghk6, hk6, ghk7, hk7, ghk8aa, ghk8abn, ghk8b] at hk9
                  all_goals
                  obtain rfl := so_some h
                  refine ⟨0, fun L hL => ?_⟩
                  simp only [go_sem, ir90, E_impl_ordered_l1, R_impl_ordered_l1, ir90_b0, ir90_k0, ir90_o0, ir90_r0, hk1, hk2, lhk2, xhk2, fhk3, ghk4, hhk4, fhk4, hk5, ghk6, hk6, lhk6, xhk6, ghk7, hk7, lhk7, xhk7, ghk8aa, ghk8abn, ghk8b, hk9]
          · rcases and_f ghk7 with ghk7a | ⟨ghk7a, ghk7b⟩
            · try simp only [go_sem, n1, n2, n3, n4, hk1, hk2, ghk4, hhk4, hk5, ghk6, hk6] at ghk7a
              all_goals
              obtain ⟨hk8, h⟩ := ck_some h
              rcases or_split hk8 with ⟨ghk8, hk8⟩ | ghk8
              · try simp only [go_sem, n1, n2, n3, n4, hk1, hk2, ghk4, hhk4, hk5, ghk6, hk6, ghk7a] at ghk8
                all_goals
                have lhk8 := ix_lt hk8
                have xhk8 := getD_mapD Fault_av faults lhk8
                try simp only [go_sem] at lhk8
                try simp only [go_sem] at xhk8
                try simp only [go_sem, n1, n2, n3, n4, hk1, hk2, ghk4, hhk4, hk5, ghk6, hk6, ghk7a, ghk8] at hk8
                all_goals
                rcases it_some h with ⟨hk9, h⟩ | ⟨hk9, h⟩
                · try simp only [go_sem, n1, n2, n3, n4, hk1, hk2, ghk4, hhk4, hk5, ghk6, hk6, ghk7a, ghk8, hk8] at hk9
                  all_goals
                  obtain rfl := so_some h
                  refine ⟨0, fun L hL => ?_⟩
                  simp only [go_sem, ir90, E_impl_ordered_l1, R_impl_ordered_l1, ir90_b0, ir90_k0, ir90_o0, ir90_r0, hk1, hk2, lhk2, xhk2, fhk3, ghk4, hhk4, fhk4, hk5, ghk6, hk6, lhk6, xhk6, ghk7a, ghk8, hk8, lhk8, xhk8, hk9]
                · try simp only [go_sem, n1, n2, n3, n4, hk1, hk2, ghk4, hhk4, hk5, ghk6, hk6, ghk7a, ghk8, hk8] at hk9
                  all_goals
                  obtain rfl := so_some h
                  refine ⟨0, fun L hL => ?_⟩
                  simp only [go_sem, ir90, E_impl_ordered_l1, R_impl_ordered_l1, ir90_b0, ir90_k0, ir90_o0, ir90_r0, hk1, hk2, lhk2, xhk2, fhk3, ghk4, hhk4, fhk4, hk5, ghk6, hk6, lhk6, xhk6, ghk7a, ghk8, hk8, lhk8, xhk8, hk9]
              · rcases and_f ghk8 with ghk8a | ⟨ghk8a, ghk8b⟩
                · rcases and_f ghk8a with ghk8aa | ⟨ghk8aa, ghk8ab⟩
                  · try simp only [go_sem, n1, n2, n3, n4, hk1, hk2, ghk4, hhk4, hk5, ghk6, hk6, ghk7a] at ghk8aa
                    all_goals
                    rcases it_some h with ⟨hk9, h⟩ | ⟨hk9, h⟩
                    · try simp only [go_sem, n1, n2, n3, n4, hk1, hk2, ghk4, hhk4, hk5, ghk6, hk6, ghk7a, ghk8aa] at hk9
                      all_goals
                      obtain rfl := so_some h
                      refine ⟨0, fun L hL => ?_⟩
                      simp only [go_sem, ir90, E_impl_ordered_l1, R_impl_ordered_l1, ir90_b0, ir90_k0, ir90_o0, ir90_r0, hk1, hk2, lhk2, xhk2, fhk3, ghk4, hhk4, fhk4, hk5, ghk6, hk6, lhk6, xhk6, ghk7a, ghk8aa, hk9]
                    · try simp only [go_sem, n1, n2, n3, n4, hk1, hk2, ghk4, hhk4, hk5, ghk6, hk6, ghk7a, ghk8aa] at hk9
                      all_goals
                      obtain rfl := so_some h
                      refine ⟨0, fun L hL => ?_⟩
                      simp only [go_sem, ir90, E_impl_ordered_l1, R_impl_ordered_l1, ir90_b0, ir90_k0, ir90_o0, ir90_r0, hk1, hk2, lhk2, xhk2, fhk3, ghk4, hhk4, fhk4, hk5, ghk6, hk6, lhk6, xhk6, ghk7a, ghk8aa, hk9]
                  · have ghk8abn := no_f ghk8ab
                    try simp only [go_sem, n1, n2, n3, n4, hk1, hk2, ghk4, hhk4, hk5, ghk6, hk6, ghk7a] at ghk8aa
                    all_goals
                    try simp only [go_sem, n1, n2, n3, n4, hk1, hk2, ghk4, hhk4, hk5, ghk6, hk6, ghk7a, ghk8aa] at ghk8abn
                    all_goals
                    rcases it_some h with ⟨hk9, h⟩ | ⟨hk9, h⟩
                    · try simp only [go_sem, n1, n2, n3, n4, hk1, hk2, ghk4, hhk4, hk5, ghk6, hk6, ghk7a, ghk8aa, ghk8abn] at hk9
                      all_goals
                      obtain rfl := so_some h
                      refine ⟨0, fun L hL => ?_⟩
                      simp only [go_sem, ir90, E_impl_ordered_l1, R_impl_ordered_l1, ir90_b0, ir90_k0, ir90_o0, ir90_r0, hk1, hk2, lhk2, xhk2, fhk3, ghk4, hhk4, fhk4, hk5, ghk6, hk6, lhk6, xhk6, ghk7a, ghk8aa, ghk8abn, hk9]
                    · try simp only [go_sem, n1, n2, n3, n4, hk1, hk2, ghk4, hhk4, hk5, ghk6, hk6, ghk7a, ghk8aa, ghk8abn] at hk9
                      all_goals
                      obtain rfl := so_some h
                      refine ⟨0, fun L hL => ?_⟩
                      simp only [go_sem, ir90, E_impl_ordered_l1, R_impl_ordered_l1, ir90_b0, ir90_k0, ir90_o0, ir90_r0, hk1, hk2, lhk2, xhk2, fhk3, ghk4, hhk4, fhk4, hk5, ghk6, hk6, lhk6, xhk6, ghk7a, ghk8aa, ghk8abn, hk9]
                · obtain ⟨ghk8aa, ghk8ab⟩ := and_t ghk8a
                  have ghk8abn := no_t ghk8ab
                  try simp only [go_sem, n1, n2, n3, n4, hk1, hk2, ghk4, hhk4, hk5, ghk6, hk6, ghk7a] at ghk8aa
                  all_goals
                  try simp only [go_sem, n1, n2, n3, n4, hk1, hk2, ghk4, hhk4, hk5, ghk6, hk6, ghk7a, ghk8aa] at ghk8abn
                  all_goals
                  try simp only [go_sem, n1, n2, n3, n4, hk1, hk2, ghk4, hhk4, hk5, ghk6, hk6, ghk7a, ghk8aa, ghk8abn] at ghk8b
                  all_goals
                  rcases it_some h with ⟨hk9, h⟩ | ⟨hk9, h⟩
                  · try simp only [go_sem, n1, n2, n3, n4, hk1, hk2, ghk4, hhk4, hk5, ghk6, hk6, ghk7a, ghk8aa, ghk8abn, ghk8b] at hk9
                    all_goals
                    obtain rfl := so_some h
                    refine ⟨0, fun L hL => ?_⟩
                    simp only [go_sem, ir90, E_impl_ordered_l1, R_impl_ordered_l1, ir90_b0, ir90_k0, ir90_o0, ir90_r0, hk1, hk2, lhk2, xhk2, fhk3, ghk4, hhk4, fhk4, hk5, ghk6, hk6, lhk6, xhk6, ghk7a, ghk8aa, ghk8abn, ghk8b, hk9]
                  · try simp only [go_sem, n1, n2, n3, n4, hk1, hk2, ghk4, hhk4, hk5, ghk6, hk6, ghk7a, ghk8aa, ghk8abn, ghk8b] at hk9
                    all_goals
                    obtain rfl := so_some h
                    refine ⟨0, fun L hL => ?_⟩
                    simp only [go_sem, ir90, E_impl_ordered_l1, R_impl_ordered_l1, ir90_b0, ir90_k0, ir90_o0, ir90_r0, hk1, hk2, lhk2, xhk2, fhk3, ghk4, hhk4, fhk4, hk5, ghk6, hk6, lhk6, xhk6, ghk7a, ghk8aa, ghk8abn, ghk8b, hk9]
            · have ghk7bn := no_f ghk7b
              try simp only [go_sem, n1, n2, n3, n4, hk1, hk2, ghk4, hhk4, hk5, ghk6, hk6] at ghk7a
              all_goals
              try simp only [go_sem, n1, n2, n3, n4, hk1, hk2, ghk4, hhk4, hk5, ghk6, hk6, ghk7a] at ghk7bn
              all_goals
              obtain ⟨hk8, h⟩ := ck_some h
              rcases or_split hk8 with ⟨ghk8, hk8⟩ | ghk8
              · try simp only [go_sem, n1, n2, n3, n4, hk1, hk2, ghk4, hhk4, hk5, ghk6, hk6, ghk7a, ghk7bn] at ghk8
                all_goals
                have lhk8 := ix_lt hk8
                have xhk8 := getD_mapD Fault_av faults lhk8
                try simp only [go_sem] at lhk8
                try simp only [go_sem] at xhk8
                try simp only [go_sem, n1, n2, n3, n4, hk1, hk2, ghk4, hhk4, hk5, ghk6, hk6, ghk7a, ghk7bn, ghk8] at hk8
                all_goals
                rcases it_some h with ⟨hk9, h⟩ | ⟨hk9, h⟩
                · try simp only [go_sem, n1, n2, n3, n4, hk1, hk2, ghk4, hhk4, hk5, ghk6, hk6, ghk7a, ghk7bn, ghk8, hk8] at hk9
                  all_goals
                  obtain rfl := so_some h
                  refine ⟨0, fun L hL => ?_⟩
                  simp only [go_sem, ir90, E_impl_ordered_l1, R_impl_ordered_l1, ir90_b0, ir90_k0, ir90_o0, ir90_r0, hk1, hk2, lhk2, xhk2, fhk3, ghk4, hhk4, fhk4, hk5, ghk6, hk6, lhk6, xhk6, ghk7a, ghk7bn, ghk8, hk8, lhk8, xhk8, hk9]
                · try simp only [go_sem, n1, n2, n3, n4, hk1, hk2, ghk4, hhk4, hk5, ghk6, hk6, ghk7a, ghk7bn, ghk8, hk8] at hk9
                  all_goals
                  obtain rfl := so_some h
                  refine ⟨0, fun L hL => ?_⟩
                  simp only [go_sem, ir90, E_impl_ordered_l1, R_impl_ordered_l1, ir90_b0, ir90_k0, ir90_o0, ir90_r0, hk1, hk2, lhk2, xhk2, fhk3, ghk4, hhk4, fhk4, hk5, ghk6, hk6, lhk6, xhk6, ghk7a, ghk7bn, ghk8, hk8, lhk8, xhk8, hk9]
              · rcases and_f ghk8 with ghk8a | ⟨ghk8a, ghk8b⟩
                · rcases and_f ghk8a with ghk8aa | ⟨ghk8aa, ghk8ab⟩
                  · try simp only [go_sem, n1, n2, n3, n4, hk1, hk2, ghk4, hhk4, hk5, ghk6, hk6, ghk7a, ghk7bn] at ghk8aa
                    all_goals
                    rcases it_some h with ⟨hk9, h⟩ | ⟨hk9, h⟩
                    · try simp only [go_sem, n1, n2, n3, n4, hk1, hk2, ghk4, hhk4, hk5, ghk6, hk6, ghk7a, ghk7bn, ghk8aa] at hk9
                      all_goals
                      obtain rfl := so_some h
                      refine ⟨0, fun L hL => ?_⟩
                      simp only [go_sem, ir90, E_impl_ordered_l1, R_impl_ordered_l1, ir90_b0, ir90_k0, ir90_o0, ir90_r0, hk1, hk2, lhk2, xhk2, fhk3, ghk4, hhk4, fhk4, hk5, ghk6, hk6, lhk6, xhk6, ghk7a, ghk7bn, ghk8aa, hk9]
                    · try simp only [go_sem, n1, n2, n3, n4, hk1, hk2, ghk4, hhk4, hk5, ghk6, hk6, ghk7a, ghk7bn, ghk8aa] at hk9
                      all_goals
                      obtain rfl := so_some h
                      refine ⟨0, fun L hL => ?_⟩
                      simp only [go_sem, ir90, E_impl_ordered_l1, R_impl_ordered_l1, ir90_b0, ir90_k0, ir90_o0, ir90_r0, hk1, hk2, lhk2, xhk2, fhk3, ghk4, hhk4, fhk4, hk5, ghk6, hk6, lhk6, xhk6, ghk7a, ghk7bn, ghk8aa, hk9]
                  · have ghk8abn := no_f ghk8ab
                    try simp only [go_sem, n1, n2, n3, n4, hk1, hk2, ghk4, hhk4, hk5, ghk6, hk6, ghk7a, ghk7bn] at ghk8aa
                    all_goals
                    try simp only [go_sem, n1, n2, n3, n4, hk1, hk2, ghk4, hhk4, hk5, ghk6, hk6, ghk7a, ghk7bn, ghk8aa] at ghk8abn
                    all_goals
                    rcases it_some h with ⟨hk9, h⟩ | ⟨hk9, h⟩
                    · try simp only [go_sem, n1, n2, n3, n4, hk1, hk2, ghk4, hhk4, hk5, ghk6, hk6, ghk7a, ghk7bn, ghk8aa, ghk8abn] at hk9
                      all_goals
                      obtain rfl := so_some h
                      refine ⟨0, fun L hL => ?_⟩
                      simp only [go_sem, ir90, E_impl_ordered_l1, R_impl_ordered_l1, ir90_b0, ir90_k0, ir90_o0, ir90_r0, hk1, hk2, lhk2, xhk2, fhk3, ghk4, hhk4, fhk4, hk5, ghk6, hk6, lhk6, xhk6, ghk7a, ghk7bn, ghk8aa, ghk8abn, hk9]
                    · try simp only [go_sem, n1, n2, n3, n4, hk1, hk2, ghk4, hhk4, hk5, ghk6, hk6, ghk7a, ghk7bn, ghk8aa, ghk8abn] at hk9
                      all_goals
                      obtain rfl := so_some h
                      refine ⟨0, fun L hL => ?_⟩
                      simp only [go_sem, ir90, E_impl_ordered_l1, R_impl_ordered_l1, ir90_b0, ir90_k0, ir90_o0, ir90_r0, hk1, hk2, lhk2, xhk2, fhk3, ghk4, hhk4, fhk4, hk5, ghk6, hk6, lhk6, xhk6, ghk7a, ghk7bn, ghk8aa, ghk8abn, hk9]
                · obtain ⟨ghk8aa, ghk8ab⟩ := and_t ghk8a
                  have ghk8abn := no_t ghk8ab
                  try simp only [go_sem, n1, n2, n3, n4, hk1, hk2, ghk4, hhk4, hk5, ghk6, hk6, ghk7a, ghk7bn] at ghk8aa
                  all_goals
                  try simp only [go_sem, n1, n2, n3, n4, hk1, hk2, ghk4, hhk4, hk5, ghk6, hk6, ghk7a, ghk7bn, ghk8aa] at ghk8abn
                  all_goals
                  try simp only [go_sem, n1, n2, n3, n4, hk1, hk2, ghk4, hhk4, hk5, ghk6, hk6, ghk7a, ghk7bn, ghk8aa, ghk8abn] at ghk8b
                  all_goals
                  rcases it_some h with ⟨hk9, h⟩ | ⟨hk9, h⟩
                  · try simp only [go_sem, n1, n2, n3, n4, hk1, hk2, ghk4, hhk4, hk5, ghk6, hk6, ghk7a, ghk7bn, ghk8aa, ghk8abn, ghk8b] at hk9
                    all_goals
                    obtain rfl := so_some h
                    refine ⟨0, fun L hL => ?_⟩
                    simp only [go_sem, ir90, E_impl_ordered_l1, R_impl_ordered_l1, ir90_b0, ir90_k0, ir90_o0, ir90_r0, hk1, hk2, lhk2, xhk2, fhk3, ghk4, hhk4, fhk4, hk5, ghk6, hk6, lhk6, xhk6, ghk7a, ghk7bn, ghk8aa, ghk8abn, ghk8b, hk9]
                  · try simp only [go_sem, n1, n2, n3, n4, hk1, hk2, ghk4, hhk4, hk5, ghk6, hk6, ghk7a, ghk7bn, ghk8aa, ghk8abn, ghk8b] at hk9
                    all_goals
                    obtain rfl := so_some h
                    refine ⟨0, fun L hL => ?_⟩
                    simp only [go_sem, ir90, E_impl_ordered_l1, R_impl_ordered_l1, ir90_b0, ir90_k0, ir90_o0, ir90_r0, hk1, hk2, lhk2, xhk2, fhk3, ghk4, hhk4, fhk4, hk5, ghk6, hk6, lhk6, xhk6, ghk7a, ghk7bn, ghk8aa, ghk8abn, ghk8b, hk9]
        · try simp only [go_sem, n1, n2, n3, n4, hk1, hk2, ghk4, hhk4, hk5] at ghk6
          all_goals
          obtain ⟨hk7, h⟩ := ck_some h
          rcases or_split hk7 with ⟨ghk7, hk7⟩ | ghk7
          · try simp only [go_sem, n1, n2, n3, n4, hk1, hk2, ghk4, hhk4, hk5, ghk6] at ghk7
            all_goals
            have lhk7 := ix_lt hk7
            have xhk7 := getD_mapD Fault_av faults lhk7
            try simp only [go_sem] at lhk7
            try simp only [go_sem] at xhk7
            try simp only [go_sem, n1, n2, n3, n4, hk1, hk2, ghk4, hhk4, hk5, ghk6, ghk7] at hk7
            all_goals
            obtain ⟨hk8, h⟩ := ck_some h
            rcases or_split hk8 with ⟨ghk8, hk8⟩ | ghk8
            · try simp only [go_sem, n1, n2, n3, n4, hk1, hk2, ghk4, hhk4, hk5, ghk6, ghk7, hk7] at ghk8
              all_goals
              have lhk8 := ix_lt hk8
              have xhk8 := getD_mapD Fault_av faults lhk8
              try simp only [go_sem] at lhk8
              try simp only [go_sem] at xhk8
              try simp only [go_sem, n1, n2, n3, n4, hk1, hk2, ghk4, hhk4, hk5, ghk6, ghk7, hk7, ghk8] at hk8
              all_goals
              rcases it_some h with ⟨hk9, h⟩ | ⟨hk9, h⟩
              · try simp only [go_sem, n1, n2, n3, n4, hk1, hk2, ghk4, hhk4, hk5, ghk6, ghk7, hk7, ghk8, hk8] at hk9
                all_goals
                obtain rfl := so_some h
                refine ⟨0, fun L hL => ?_⟩
                simp only [go_sem, ir90, E_impl_ordered_l1, R_impl_ordered_l1, ir90_b0, ir90_k0, ir90_o0, ir90_r0, hk1, hk2, lhk2, xhk2, fhk3, ghk4, hhk4, fhk4, hk5, ghk6, ghk7, hk7, lhk7, xhk7, ghk8, hk8, lhk8, xhk8, hk9]
              · try simp only [go_sem, n1, n2, n3, n4, hk1, hk2, ghk4, hhk4, hk5, ghk6, ghk7, hk7, ghk8, hk8] at hk9
                all_goals
                obtain rfl := so_some h
                refine ⟨0, fun L hL => ?_⟩
                simp only [go_sem, ir90, E_impl_ordered_l1, R_impl_ordered_l1, ir90_b0, ir90_k0, ir90_o0, ir90_r0, hk1, hk2, lhk2, xhk2, fhk3, ghk4, hhk4, fhk4, hk5, ghk6, ghk7, hk7, lhk7, xhk7, ghk8, hk8, lhk8, xhk8, hk9]
            · rcases and_f ghk8 with ghk8a | ⟨ghk8a, ghk8b⟩
              · rcases and_f ghk8a with ghk8aa | ⟨ghk8aa, ghk8ab⟩
                · try simp only [go_sem, n1, n2, n3, n4, hk1, hk2, ghk4, hhk4, hk5, ghk6, ghk7, hk7] at ghk8aa
                  all_goals
                  rcases it_some h with ⟨hk9, h⟩ | ⟨hk9, h⟩
                  · try simp only [go_sem, n1, n2, n3, n4, hk1, hk2, ghk4, hhk4, hk5, ghk6, ghk7, hk7, ghk8aa] at hk9
                    all_goals
                    obtain rfl := so_some h
                    refine ⟨0, fun L hL => ?_⟩
                    simp only [go_sem, ir90, E_impl_ordered_l1, R_impl_ordered_l1, ir90_b0, ir90_k0, ir90_o0, ir90_r0, hk1, hk2, lhk2, xhk2, fhk3, ghk4, hhk4, fhk4, hk5, ghk6, ghk7, hk7, lhk7, xhk7, ghk8aa, hk9]
                  · try simp only [go_sem, n1, n2, n3, n4, hk1, hk2, ghk4, hhk4, hk5, ghk6, ghk7, hk7, ghk8aa] at hk9
                    all_goals
                    obtain rfl := so_some h
                    refine ⟨0, fun L hL => ?_⟩
                    simp only [go_sem, ir90, E_impl_ordered_l1, R_impl_ordered_l1, ir90_b0, ir90_k0, ir90_o0, ir90_r0, hk1, hk2, lhk2, xhk2, fhk3, ghk4, hhk4, fhk4, hk5, ghk6, ghk7, hk7, lhk7, xhk7, ghk8aa, hk9]
                · have ghk8abn := no_f ghk8ab
                  try simp only [go_sem, n1, n2, n3, n4, hk1, hk2, ghk4, hhk4, hk5, ghk6, ghk7, hk7] at ghk8aa
                  all_goals
                  try simp only [go_sem, n1, n2, n3, n4, hk1, hk2, ghk4, hhk4, hk5, ghk6, ghk7, hk7, ghk8aa] at ghk8abn
                  all_goals
                  rcases it_some h with ⟨hk9, h⟩ | ⟨hk9, h⟩
                  · try simp only [go_sem, n1, n2, n3, n4, hk1, hk2, ghk4, hhk4, hk5, ghk6, ghk7, hk7, ghk8aa, ghk8abn] at hk9
                    all_goals
                    obtain rfl := so_some h
                    refine ⟨0, fun L hL => ?_⟩
                    simp only [go_sem, ir90, E_impl_ordered_l1, R_impl_ordered_l1, ir90_b0, ir90_k0, ir90_o0, ir90_r0, hk1, hk2, lhk2, xhk2, fhk3, ghk4, hhk4, fhk4, hk5, ghk6, ghk7, hk7, lhk7, xhk7, ghk8aa, ghk8abn, hk9]
                  · try simp only [go_sem, n1, n2, n3, n4, hk1, hk2, ghk4, hhk4, hk5, ghk6, ghk7, hk7, ghk8aa, ghk8abn] at hk9
                    all_goals
                    obtain rfl := so_some h
                    refine ⟨0, fun L hL => ?_⟩
                    simp only [go_sem, ir90, E_impl_ordered_l1, R_impl_ordered_l1, ir90_b0, ir90_k0, ir90_o0, ir90_r0, hk1, hk2, lhk2, xhk2, fhk3, ghk4, hhk4, fhk4, hk5, ghk6, ghk7, hk7, lhk7, xhk7, ghk8aa, ghk8abn, hk9]
              · obtain ⟨ghk8aa, ghk8ab⟩ := and_t ghk8a
                have ghk8abn := no_t ghk8ab
                try simp only [go_sem, n1, n2, n3, n4, hk1, hk2, ghk4, hhk4, hk5, ghk6, ghk7, hk7] at ghk8aa
                all_goals
                try simp only [go_sem, n1, n2, n3, n4, hk1, hk2, ghk4, hhk4, hk5, ghk6, ghk7, hk7, ghk8aa] at ghk8abn
                all_goals
                try simp only [go_sem, n1, n2, n3, n4, hk1, hk2, ghk4, hhk4, hk5, ghk6, ghk7, hk7, ghk8aa, ghk8abn] at ghk8b
                all_goals
                rcases it_some h with ⟨hk9, h⟩ | ⟨hk9, h⟩
                · try simp only [go_sem, n1, n2, n3, n4, hk1, hk2, ghk4, hhk4, hk5, ghk6, ghk7, hk7, ghk8aa, ghk8abn, ghk8b] at hk9
                  all_goals
                  obtain rfl := so_some h
                  refine ⟨0, fun L hL => ?_⟩
                  simp only [go_sem, ir90, E_impl_ordered_l1, R_impl_ordered_l1, ir90_b0, ir90_k0, ir90_o0, ir90_r0, hk1, hk2, lhk2, xhk2, fhk3, ghk4, hhk4, fhk4, hk5, ghk6, ghk7, hk7, lhk7, xhk7, ghk8aa, ghk8abn, ghk8b, hk9]
                · try simp only [go_sem, n1, n2, n3, n4, hk1, hk2, ghk4, hhk4, hk5, ghk6, ghk7, hk7, ghk8aa, ghk8abn, ghk8b] at hk9
                  all_goals
                  obtain rfl := so_some h
                  refine ⟨0, fun L hL => ?_⟩
                  simp only [go_sem, ir90, E_impl_ordered_l1, R_impl_ordered_l1, ir90_b0, ir90_k0, ir90_o0, ir90_r0, hk1, hk2, lhk2, xhk2, fhk3, ghk4, hhk4, fhk4, hk5, ghk6, ghk7, hk7, lhk7, xhk7, ghk8aa, ghk8abn, ghk8b, hk9]
          · rcases and_f ghk7 with ghk7a | ⟨ghk7a, ghk7b⟩
            · try simp only [go_sem, n1, n2, n3, n4, hk1, hk2, ghk4, hhk4, hk5, ghk6] at ghk7a
              all_goals
              obtain ⟨hk8, h⟩ := ck_some h
              rcases or_split hk8 with ⟨ghk8, hk8⟩ | ghk8
              · try simp only [go_sem, n1, n2, n3, n4, hk1, hk2, ghk4, hhk4, hk5, ghk6, ghk7a] at ghk8
                all_goals
                have lhk8 := ix_lt hk8
                have xhk8 := getD_mapD Fault_av faults lhk8
                try simp only [go_sem] at lhk8
                try simp only [go_sem] at xhk8
                try simp only [go_sem, n1, n2, n3, n4, hk1, hk2, ghk4, hhk4, hk5, ghk6, ghk7a, ghk8] at hk8
                all_goals
                rcases it_some h with ⟨hk9, h⟩ | ⟨hk9, h⟩
                · try simp only [go_sem, n1, n2, n3, n4, hk1, hk2, ghk4, hhk4, hk5, ghk6, ghk7a, ghk8, hk8] at hk9
                  all_goals
                  obtain rfl := so_some h
                  refine ⟨0, fun L hL => ?_⟩
                  simp only [go_sem, ir90, E_impl_ordered_l1, R_impl_ordered_l1, ir90_b0, ir90_k0, ir90_o0, ir90_r0, hk1, hk2, lhk2, xhk2, fhk3, ghk4, hhk4, fhk4, hk5, ghk6, ghk7a, ghk8, hk8, lhk8, xhk8, hk9]
                · try simp only [go_sem, n1, n2, n3, n4, hk1, hk2, ghk4, hhk4, hk5, ghk6, ghk7a, ghk8, hk8] at hk9
                  all_goals
                  obtain rfl := so_some h
                  refine ⟨0, fun L hL => ?_⟩
                  simp only [go_sem, ir90, E_impl_ordered_l1, R_impl_ordered_l1, ir90_b0, ir90_k0, ir90_o0, ir90_r0, hk1, hk2, lhk2, xhk2, fhk3, ghk4, hhk4, fhk4, hk5, ghk6, ghk7a, ghk8, hk8, lhk8, xhk8, hk9]
              · rcases and_f ghk8 with ghk8a | ⟨ghk8a, ghk8b⟩
                · rcases and_f ghk8a with ghk8aa | ⟨ghk8aa, ghk8ab⟩
                  · try simp only [go_sem, n1, n2, n3, n4, hk1, hk2, ghk4, hhk4, hk5, ghk6, ghk7a] at ghk8aa
                    all_goals
                    rcases it_some h with ⟨hk9, h⟩ | ⟨hk9, h⟩
                    · try simp only [go_sem, n1, n2, n3, n4, hk1, hk2, ghk4, hhk4, hk5, ghk6, ghk7a, ghk8aa] at hk9
                      all_goals
                      obtain rfl := so_some h
                      refine ⟨0, fun L hL => ?_⟩
                      simp only [go_sem, ir90, E_impl_ordered_l1, R_impl_ordered_l1, ir90_b0, ir90_k0, ir90_o0, ir90_r0, hk1, hk2, lhk2, xhk2, fhk3, ghk4, hhk4, fhk4, hk5, ghk6, ghk7a, ghk8aa, hk9]
                    · try simp only [go_sem, n1, n2, n3, n4, hk1, hk2, ghk4, hhk4, hk5, ghk6, ghk7a, ghk8aa] at hk9
                      all_goals
                      obtain rfl := so_some h
                      refine ⟨0, fun L hL => ?_⟩
                      simp only [go_sem, ir90, E_impl_ordered_l1, R_impl_ordered_l1, ir90_b0, ir90_k0, ir90_o0, ir90_r0, hk1, hk2, lhk2, xhk2, fhk3, ghk4, hhk4, fhk4, hk5, ghk6, ghk7a, ghk8aa, hk9]
                  · have ghk8abn := no_f ghk8ab
                    try simp only [go_sem, n1, n2, n3, n4, hk1, hk2, ghk4, hhk4, hk5, ghk6, ghk7a] at ghk8aa
                    all_goals
                    try simp only [go_sem, n1, n2, n3, n4, hk1, hk2, ghk4, hhk4, hk5, ghk6, ghk7a, ghk8aa] at ghk8abn
                    all_goals
                    rcases it_some h with ⟨hk9, h⟩ | ⟨hk9, h⟩
                    · try simp only [go_sem, n1, n2, n3, n4, hk1, hk2, ghk4, hhk4, hk5, ghk6, ghk7a, ghk8aa, ghk8abn] at hk9
                      all_goals
                      obtain rfl := so_some h
                      refine ⟨0, fun L hL => ?_⟩
                      simp only [go_sem, ir90, E_impl_ordered_l1, R_impl_ordered_l1, ir90_b0, ir90_k0, ir90_o0, ir90_r0, hk1, hk2, lhk2, xhk2, fhk3, ghk4, hhk4, fhk4, hk5, ghk6, ghk7a, ghk8aa, ghk8abn, hk9]
                    · try simp only [go_sem, n1, n2, n3, n4, hk1, hk2, ghk4, hhk4, hk5, ghk6, ghk7a, ghk8aa, ghk8abn] at hk9
                      all_goals
                      obtain rfl := so_some h
                      refine ⟨0, fun L hL => ?_⟩
                      simp only [go_sem, ir90, E_impl_ordered_l1, R_impl_ordered_l1, ir90_b0, ir90_k0, ir90_o0, ir90_r0, hk1, hk2, lhk2, xhk2, fhk3, ghk4, hhk4, fhk4, hk5, ghk6, ghk7a, ghk8aa, ghk8abn, hk9]
                · obtain ⟨ghk8aa, ghk8ab⟩ := and_t ghk8a
                  have ghk8abn := no_t ghk8ab
                  try simp only [go_sem, n1, n2, n3, n4, hk1, hk2, ghk4, hhk4, hk5, ghk6, ghk7a] at ghk8aa
                  all_goals
                  try simp only [go_sem, n1, n2, n3, n4, hk1, hk2, ghk4, hhk4, hk5, ghk6, ghk7a, ghk8aa] at ghk8abn
                  all_goals
                  try simp only [go_sem, n1, n2, n3, n4, hk1, hk2, ghk4, hhk4, hk5, ghk6, ghk7a, ghk8aa, ghk8abn] at ghk8b
                  all_goals
                  rcases it_some h with ⟨hk9, h⟩ | ⟨hk9, h⟩
                  · try simp only [go_sem, n1, n2, n3, n4, hk1, hk2, ghk4, hhk4, hk5, ghk6, ghk7a, ghk8aa, ghk8abn, ghk8b] at hk9
                    all_goals
                    obtain rfl := so_some h
                    refine ⟨0, fun L hL => ?_⟩
                    simp only [go_sem, ir90, E_impl_ordered_l1, R_impl_ordered_l1, ir90_b0, ir90_k0, ir90_o0, ir90_r0, hk1, hk2, lhk2, xhk2, fhk3, ghk4, hhk4, fhk4, hk5, ghk6, ghk7a, ghk8aa, ghk8abn, ghk8b, hk9]
                  · try simp only [go_sem, n1, n2, n3, n4, hk1, hk2, ghk4, hhk4, hk5, ghk6, ghk7a, ghk8aa, ghk8abn, ghk8b] at hk9
                    all_goals
                    obtain rfl := so_some h
                    refine ⟨0, fun L hL => ?_⟩
                    simp only [go_sem, ir90, E_impl_ordered_l1, R_impl_ordered_l1, ir90_b0, ir90_k0, ir90_o0, ir90_r0, hk1, hk2, lhk2, xhk2, fhk3, ghk4, hhk4, fhk4, hk5, ghk6, ghk7a, ghk8aa, ghk8abn, ghk8b, hk9]
            · have ghk7bn := no_f ghk7b
              try simp only [go_sem, n1, n2, n3, n4, hk1, hk2, ghk4, hhk4, hk5, ghk6] at ghk7a
              all_goals
              try simp only [go_sem, n1, n2, n3, n4, hk1, hk2, ghk4, hhk4, hk5, ghk6, ghk7a] at ghk7bn
              all_goals
              obtain ⟨hk8, h⟩ := ck_some h
              rcases or_split hk8 with ⟨ghk8, hk8⟩ | ghk8
              · try simp only [go_sem, n1, n2, n3, n4, hk1, hk2, ghk4, hhk4, hk5, ghk6, ghk7a, ghk7bn] at ghk8
                all_goals
                have lhk8 := ix_lt hk8
                have xhk8 := getD_mapD Fault_av faults lhk8
                try simp only [go_sem] at lhk8
                try simp only [go_sem] at xhk8
                try simp only [go_sem, n1, n2, n3, n4, hk1, hk2, ghk4, hhk4, hk5, ghk6, ghk7a, ghk7bn, ghk8] at hk8
                all_goals
                rcases it_some h with ⟨hk9, h⟩ | ⟨hk9, h⟩
                · try simp only [go_sem, n1, n2, n3, n4, hk1, hk2, ghk4, hhk4, hk5, ghk6, ghk7a, ghk7bn, ghk8, hk8] at hk9
                  all_goals
                  obtain rfl := so_some h
                  refine ⟨0, fun L hL => ?_⟩
                  simp only [go_sem, ir90, E_impl_ordered_l1, R_impl_ordered_l1, ir90_b0, ir90_k0, ir90_o0, ir90_r0, hk1, hk2, lhk2, xhk2, fhk3, ghk4, hhk4, fhk4, hk5, ghk6, ghk7a, ghk7bn, ghk8, hk8, lhk8, xhk8, hk9]
                · try simp only [go_sem, n1, n2, n3, n4, hk1, hk2, ghk4, hhk4, hk5, ghk6, ghk7a, ghk7bn, ghk8, hk8] at hk9
                  all_goals
                  obtain rfl := so_some h
                  refine ⟨0, fun L hL => ?_⟩
                  simp only [go_sem, ir90, E_impl_ordered_l1, R_impl_ordered_l1, ir90_b0, ir90_k0, ir90_o0, ir90_r0, hk1, hk2, lhk2, xhk2, fhk3, ghk4, hhk4, fhk4, hk5, ghk6, ghk7a, ghk7bn, ghk8, hk8, lhk8, xhk8, hk9]
              · rcases and_f ghk8 with ghk8a | ⟨ghk8a, ghk8b⟩
                · rcases and_f ghk8a with ghk8aa | ⟨ghk8aa, ghk8ab⟩
                  · try simp only [go_sem, n1, n2, n3, n4, hk1, hk2, ghk4, hhk4, hk5, ghk6, ghk7a, ghk7bn] at ghk8aa
                    all_goals
                    rcases it_some h with ⟨hk9, h⟩ | ⟨hk9, h⟩
                    · try simp only [go_sem, n1, n2, n3, n4, hk1, hk2, ghk4, hhk4, hk5, ghk6, ghk7a, ghk7bn, ghk8aa] at hk9
                      all_goals
                      obtain rfl := so_some h
                      refine ⟨0, fun L hL => ?_⟩
                      simp only [go_sem, ir90, E_impl_ordered_l1, R_impl_ordered_l1, ir90_b0, ir90_k0, ir90_o0, ir90_r0, hk1, hk2, lhk2, xhk2, fhk3, ghk4, hhk4, fhk4, hk5, ghk6, ghk7a, ghk7bn, ghk8aa, hk9]
                    · try simp only [go_sem, n1, n2, n3, n4, hk1, hk2, ghk4, hhk4, hk5, ghk6, ghk7a, ghk7bn, ghk8aa] at hk9
                      all_goals
                      obtain rfl := so_some h
                      refine ⟨0, fun L hL => ?_⟩
                      simp only [go_sem, ir90, E_impl_ordered_l1, R_impl_ordered_l1, ir90_b0, ir90_k0, ir90_o0, ir90_r0, hk1, hk2, lhk2, xhk2, fhk3, ghk4, hhk4, fhk4, hk5, ghk6, ghk7a, ghk7bn, ghk8aa, hk9]
                  · have ghk8abn := no_f ghk8ab
                    try simp only [go_sem, n1, n2, n3, n4, hk1, hk2, ghk4, hhk4, hk5, ghk6, ghk7a, ghk7bn] at ghk8aa
                    all_goals
                    try simp only [go_sem, n1, n2, n3, n4, hk1, hk2, ghk4, hhk4, hk5, ghk6, ghk7a, ghk7bn, ghk8aa] at ghk8abn
                    all_goals
                    rcases it_some h with ⟨hk9, h⟩ | ⟨hk9, h⟩
                    · try simp only [go_sem, n1, n2, n3, n4, hk1, hk2, ghk4, hhk4, hk5, ghk6, ghk7a, ghk7bn, ghk8aa, ghk8abn] at hk9
                      all_goals
                      obtain rfl := so_some h
                      refine ⟨0, fun L hL => ?_⟩
                      simp only [go_sem, ir90, E_impl_ordered_l1, R_impl_ordered_l1, ir90_b0, ir90_k0, ir90_o0, ir90_r0, hk1, hk2, lhk2, xhk2, fhk3, ghk4, hhk4, fhk4, hk5, ghk6, ghk7a, ghk7bn, ghk8aa, ghk8abn, hk9]
                    · try simp only [go_sem, n1, n2, n3, n4, hk1, hk2, ghk4, hhk4, hk5, ghk6, ghk7a, ghk7bn, ghk8aa, ghk8abn] at hk9
                      all_goals
                      obtain rfl := so_some h
                      refine ⟨0, fun L hL => ?_⟩
                      simp only [go_sem, ir90, E_impl_ordered_l1, R_impl_ordered_l1, ir90_b0, ir90_k0, ir90_o0, ir90_r0, hk1, hk2, lhk2, xhk2, fhk3, ghk4, hhk4, fhk4, hk5, ghk6, ghk7a, ghk7bn, ghk8aa, ghk8abn, hk9]
                · obtain ⟨ghk8aa, ghk8ab⟩ := and_t ghk8a
                  have ghk8abn := no_t ghk8ab
                  try simp only [go_sem, n1, n2, n3, n4, hk1, hk2, ghk4, hhk4, hk5, ghk6, ghk7a, ghk7bn] at ghk8aa
                  all_goals
                  try simp only [go_sem, n1, n2, n3, n4, hk1, hk2, ghk4, hhk4, hk5, ghk6, ghk7a, ghk7bn, ghk8aa] at ghk8abn
                  all_goals
                  try simp only [go_sem, n1, n2, n3, n4, hk1, hk2, ghk4, hhk4, hk5, ghk6, ghk7a, ghk7bn, ghk8aa, ghk8abn] at ghk8b
                  all_goals
                  rcases it_some h with ⟨hk9, h⟩ | ⟨hk9, h⟩
                  · try simp only [go_sem, n1, n2, n3, n4, hk1, hk2, ghk4, hhk4, hk5, ghk6, ghk7a, ghk7bn, ghk8aa, ghk8abn, ghk8b] at hk9
                    all_goals
                    obtain rfl := so_some h
                    refine ⟨0, fun L hL => ?_⟩
                    simp only [go_sem, ir90, E_impl_ordered_l1, R_impl_ordered_l1, ir90_b0, ir90_k0, ir90_o0, ir90_r0, hk1, hk2, lhk2, xhk2, fhk3, ghk4, hhk4, fhk4, hk5, ghk6, ghk7a, ghk7bn, ghk8aa, ghk8abn, ghk8b, hk9]
                  · try simp only [go_sem, n1, n2, n3, n4, hk1, hk2, ghk4, hhk4, hk5, ghk6, ghk7a, ghk7bn, ghk8aa, ghk8abn, ghk8b] at hk9
                    all_goals
                    obtain rfl := so_some h
                    refine ⟨0, fun L hL => ?_⟩
                    simp only [go_sem, ir90, E_impl_ordered_l1, R_impl_ordered_l1, ir90_b0, ir90_k0, ir90_o0, ir90_r0, hk1, hk2, lhk2, xhk2, fhk3, ghk4, hhk4, fhk4, hk5, ghk6, ghk7a, ghk7bn, ghk8aa, ghk8abn, ghk8b, hk9]
    · have ghk4n := no_f ghk4
      have ghk4nn := no_t ghk4n
      try simp only [go_sem, n1, n2, n3, n4, hk1, hk2] at ghk4nn
      all_goals
      rcases it_some h with ⟨hk5, h⟩ | ⟨hk5, h⟩
      · try simp only [go_sem, n1, n2, n3, n4, hk1, hk2, ghk4nn] at hk5
        all_goals
        obtain rfl := so_some h
        refine ⟨0, fun L hL => ?_⟩
        simp only [go_sem, ir90, E_impl_ordered_l1, R_impl_ordered_l1, ir90_b0, ir90_k0, ir90_o0, ir90_r0, hk1, hk2, lhk2, xhk2, fhk3, ghk4nn, hk5]
      · try simp only [go_sem, n1, n2, n3, n4, hk1, hk2, ghk4nn] at hk5
        all_goals
        obtain ⟨hk6, h⟩ := ck_some h
        rcases or_split hk6 with ⟨ghk6, hk6⟩ | ghk6
        · try simp only [go_sem, n1, n2, n3, n4, hk1, hk2, ghk4nn, hk5] at ghk6
          all_goals
          have lhk6 := ix_lt hk6
          have xhk6 := getD_mapD Fault_av faults lhk6
          try simp only [go_sem] at lhk6
          try simp only [go_sem] at xhk6
          try simp only [go_sem, n1, n2, n3, n4, hk1, hk2, ghk4nn, hk5, ghk6] at hk6
          all_goals
          obtain ⟨hk7, h⟩ := ck_some h
          rcases or_split hk7 with ⟨ghk7, hk7⟩ | ghk7
          · try simp only [go_sem, n1, n2, n3, n4, hk1, hk2, ghk4nn, hk5, ghk6, hk6] at ghk7
            all_goals
            have lhk7 := ix_lt hk7
            have xhk7 := getD_mapD Fault_av faults lhk7
            try simp only [go_sem] at lhk7
            try simp only [go_sem] at xhk7
            try simp only [go_sem, n1, n2, n3, n4, hk1, hk2, ghk4nn, hk5, ghk6, hk6, ghk7] at hk7
            all_goals
            obtain ⟨hk8, h⟩ := ck_some h
            rcases or_split hk8 with ⟨ghk8, hk8⟩ | ghk8
            · try simp only [go_sem, n1, n2, n3, n4, hk1, hk2, ghk4nn, hk5, ghk6, hk6, ghk7, hk7] at ghk8
              all_goals
              have lhk8 := ix_lt hk8
              have xhk8 := getD_mapD Fault_av faults lhk8
              try simp only [go_sem] at lhk8
              try simp only [go_sem] at xhk8
              try simp only [go_sem, n1, n2, n3, n4, hk1, hk2, ghk4nn, hk5, ghk6, hk6, ghk7, hk7, ghk8] at hk8
              all_goals
              rcases it_some h with ⟨hk9, h⟩ | ⟨hk9, h⟩
              · try simp only [go_sem, n1, n2, n3, n4, hk1, hk2, ghk4nn, hk5, ghk6, hk6, ghk7, hk7, ghk8, hk8] at hk9
                all_goals
                obtain rfl := so_some h
                refine ⟨0, fun L hL => ?_⟩
                simp only [go_sem, ir90, E_impl_ordered_l1, R_impl_ordered_l1, ir90_b0, ir90_k0, ir90_o0, ir90_r0, hk1, hk2, lhk2, xhk2, fhk3, ghk4nn, hk5, ghk6, hk6, lhk6, xhk6, ghk7, hk7, lhk7, xhk7, ghk8, hk8, lhk8, xhk8, hk9]
              · try simp only [go_sem, n1, n2, n3, n4, hk1, hk2, ghk4nn, hk5, ghk6, hk6, ghk7, hk7, ghk8, hk8] at hk9
                all_goals
                obtain rfl := so_some h
                refine ⟨0, fun L hL => ?_⟩
                simp only [go_sem, ir90, E_impl_ordered_l1, R_impl_ordered_l1, ir90_b0, ir90_k0, ir90_o0, ir90_r0, hk1, hk2, lhk2, xhk2, fhk3, ghk4nn, hk5, ghk6, hk6, lhk6, xhk6, ghk7, hk7, lhk7, xhk7, ghk8, hk8, lhk8, xhk8, hk9]
            · rcases and_f ghk8 with ghk8a | ⟨ghk8a, ghk8b⟩
              · rcases and_f ghk8a with ghk8aa | ⟨ghk8aa, ghk8ab⟩
                · try simp only [go_sem, n1, n2, n3, n4, hk1, hk2, ghk4nn, hk5, ghk6, hk6, ghk7, hk7] at ghk8aa
                  all_goals
                  rcases it_some h with ⟨hk9, h⟩ | ⟨hk9, h⟩
                  · try simp only [go_sem, n1, n2, n3, n4, hk1, hk2, ghk4nn, hk5, ghk6, hk6, ghk7, hk7, ghk8aa] at hk9
                    all_goals
                    obtain rfl := so_some h
                    refine ⟨0, fun L hL => ?_⟩
                    simp only [go_sem, ir90, E_impl_ordered_l1, R_impl_ordered_l1, ir90_b0, ir90_k0, ir90_o0, ir90_r0, hk1, hk2, lhk2, xhk2, fhk3, ghk4nn, hk5, ghk6, hk6, lhk6, xhk6, ghk7, hk7, lhk7, xhk7, ghk8aa, hk9]
                  · try simp only [go_sem, n1, n2, n3, n4, hk1, hk2, ghk4nn, hk5, ghk6, hk6, ghk7, hk7, ghk8aa] at hk9
                    all_goals
                    obtain rfl := so_some h
                    refine ⟨0, fun L hL => ?_⟩
                    simp only [go_sem, ir90, E_impl_ordered_l1, R_impl_ordered_l1, ir90_b0, ir90_k0, ir90_o0, ir90_r0, hk1, hk2, lhk2, xhk2, fhk3, ghk4nn, hk5, ghk6, hk6, lhk6, xhk6, ghk7, hk7, lhk7, xhk7, ghk8aa, hk9]
                · have ghk8abn := no_f ghk8ab
                  try simp only [go_sem, n1, n2, n3, n4, hk1, hk2, ghk4nn, hk5, ghk6, hk6, ghk7, hk7] at ghk8aa
                  all_goals
                  try simp only [go_sem, n1, n2, n3, n4, hk1, hk2, ghk4nn, hk5, ghk6, hk6, ghk7, hk7, ghk8aa] at ghk8abn
                  all_goals
                  rcases it_some h with ⟨hk9, h⟩ | ⟨hk9, h⟩
                  · try simp only [go_sem, n1, n2, n3, n4, hk1, hk2, ghk4nn, hk5, ghk6, hk6, ghk7, hk7, ghk8aa, ghk8abn] at hk9
                    all_goals
                    obtain rfl := so_some h
                    refine ⟨0, fun L hL => ?_⟩
                    simp only [go_sem, ir90, E_impl_ordered_l1, R_impl_ordered_l1, ir90_b0, ir90_k0, ir90_o0, ir90_r0, hk1, hk2, lhk2, xhk2, fhk3, ghk4nn, hk5, ghk6, hk6, lhk6, xhk6, ghk7, hk7, lhk7, xhk7, ghk8aa, ghk8abn, hk9]
                  · try simp only [go_sem, n1, n2, n3, n4, hk1, hk2, ghk4nn, hk5, ghk6, hk6, ghk7, hk7, ghk8aa, ghk8abn] at hk9
                    all_goals
                    obtain rfl := so_some h
                    refine ⟨0, fun L hL => ?_⟩
                    simp only [go_sem, ir90, E_impl_ordered_l1, R_impl_ordered_l1, ir90_b0, ir90_k0, ir90_o0, ir90_r0, hk1, hk2, lhk2, xhk2, fhk3, ghk4nn, hk5, ghk6, hk6, lhk6, xhk6, ghk7, hk7, lhk7, xhk7, ghk8aa, ghk8abn, hk9]
              · obtain ⟨ghk8aa, ghk8ab⟩ := and_t ghk8a
                have ghk8abn := no_t ghk8ab
                try simp only [go_sem, n1, n2, n3, n4, hk1, hk2, ghk4nn, hk5, ghk6, hk6, ghk7, hk7] at ghk8aa
                all_goals
                try simp only [go_sem, n1, n2, n3, n4, hk1, hk2, ghk4nn, hk5, ghk6, hk6, ghk7, hk7, ghk8aa] at ghk8abn
                all_goals
                try simp only [go_sem, n1, n2, n3, n4, hk1, hk2, ghk4nn, hk5, ghk6, hk6, ghk7, hk7, ghk8aa, ghk8abn] at ghk8b
                all_goals
                rcases it_some h with ⟨hk9, h⟩ | ⟨hk9, h⟩
                · try simp only [go_sem, n1, n2, n3, n4, hk1, hk2, ghk4nn, hk5, ghk6, hk6, ghk7, hk7, ghk8aa, ghk8abn, ghk8b] at hk9
                  all_goals
                  obtain rfl := so_some h
                  refine ⟨0, fun L hL => ?_⟩
                  simp only [go_sem, ir90, E_impl_ordered_l1, R_impl_ordered_l1, ir90_b0, ir90_k0, ir90_o0, ir90_r0, hk1, hk2, lhk2, xhk2, fhk3, ghk4nn, hk5, ghk6, hk6, lhk6, xhk6, ghk7, hk7, lhk7, xhk7, ghk8aa, ghk8abn, ghk8b, hk9]
                · try simp only [go_sem, n1, n2, n3, n4, hk1, hk2, ghk4nn, hk5, ghk6, hk6, ghk7, hk7, ghk8aa, ghk8abn, ghk8b] at hk9
                  all_goals
                  obtain rfl := so_some h
                  refine ⟨0, fun L hL => ?_⟩
                  simp only [go_sem, ir90, E_impl_ordered_l1, R_impl_ordered_l1, ir90_b0, ir90_k0, ir90_o0, ir90_r0, hk1, hk2, lhk2, xhk2, fhk3, ghk4nn, hk5, ghk6, hk6, lhk6, xhk6, ghk7, hk7, lhk7, xhk7, ghk8aa, ghk8abn, ghk8b, hk9]
          · rcases and_f ghk7 with ghk7a | ⟨ghk7a, ghk7b⟩
            · try simp only [go_sem, n1, n2, n3, n4, hk1, hk2, ghk4nn, hk5, ghk6, hk6] at ghk7a
              all_goals
              obtain ⟨hk8, h⟩ := ck_some h
              rcases or_split hk8 with ⟨ghk8, hk8⟩ | ghk8
              · try simp only [go_sem, n1, n2, n3, n4, hk1, hk2, ghk4nn, hk5, ghk6, hk6, ghk7a] at ghk8
                all_goals
                have lhk8 := ix_lt hk8
                have xhk8 := getD_mapD Fault_av faults lhk8
                try simp only [go_sem] at lhk8
                try simp only [go_sem] at xhk8
                try simp only [go_sem, n1, n2, n3, n4, hk1, hk2, ghk4nn, hk5, ghk6, hk6, ghk7a, ghk8] at hk8
                all_goals
                rcases it_some h with ⟨hk9, h⟩ | ⟨hk9, h⟩
                · try simp only [go_sem, n1, n2, n3, n4, hk1, hk2, ghk4nn, hk5, ghk6, hk6, ghk7a, ghk8, hk8] at hk9
                  all_goals
                  obtain rfl := so_some h
                  refine ⟨0, fun L hL => ?_⟩
                  simp only [go_sem, ir90, E_impl_ordered_l1, R_impl_ordered_l1, ir90_b0, ir90_k0, ir90_o0, ir90_r0, hk1, hk2, lhk2, xhk2, fhk3, ghk4nn, hk5, ghk6, hk6, lhk6, xhk6, ghk7a, ghk8, hk8, lhk8, xhk8, hk9]
                · try simp only [go_sem, n1, n2, n3, n4, hk1, hk2, ghk4nn, hk5, ghk6, hk6, ghk7a, ghk8, hk8] at hk9
                  all_goals
                  obtain rfl := so_some h
                  refine ⟨0, fun L hL => ?_⟩
                  simp only [go_sem, ir90, E_impl_ordered_l1, R_impl_ordered_l1, ir90_b0, ir90_k0, ir90_o0, ir90_r0, hk1, hk2, lhk2, xhk2, fhk3, ghk4nn, hk5, ghk6, hk6, lhk6, xhk6, ghk7a, ghk8, hk8, lhk8, xhk8, hk9]
              · rcases and_f ghk8 with ghk8a | ⟨ghk8a, ghk8b⟩
                · rcases and_f ghk8a with ghk8aa | ⟨ghk8aa, ghk8ab⟩
                  · try simp only [go_sem, n1, n2, n3, n4, hk1, hk2, ghk4nn, hk5, ghk6, hk6, ghk7a] at ghk8aa
                    all_goals
                    rcases it_some h with ⟨hk9, h⟩ | ⟨hk9, h⟩
                    · try simp only [go_sem, n1, n2, n3, n4, hk1, hk2, ghk4nn, hk5, ghk6, hk6, ghk7a, ghk8aa] at hk9
                      all_goals
                      obtain rfl := so_some h
                      refine ⟨0, fun L hL => ?_⟩
                      simp only [go_sem, ir90, E_impl_ordered_l1, R_impl_ordered_l1, ir90_b0, ir90_k0, ir90_o0, ir90_r0, hk1, hk2, lhk2, xhk2, fhk3, ghk4nn, hk5, ghk6, hk6, lhk6, xhk6, ghk7a, ghk8aa, hk9]
                    · try simp only [go_sem, n1, n2, n3, n4, hk1, hk2, ghk4nn, hk5, ghk6, hk6, ghk7a, ghk8aa] at hk9
                      all_goals
                      obtain rfl := so_some h
                      refine ⟨0, fun L hL => ?_⟩
                      simp only [go_sem, ir90, E_impl_ordered_l1, R_impl_ordered_l1, ir90_b0, ir90_k0, ir90_o0, ir90_r0, hk1, hk2, lhk2, xhk2, fhk3, ghk4nn, hk5, ghk6, hk6, lhk6, xhk6, ghk7a, ghk8aa, hk9]
                  · have ghk8abn := no_f ghk8ab
                    try simp only [go_sem, n1, n2, n3, n4, hk1, hk2, ghk4nn, hk5, ghk6, hk6, ghk7a] at ghk8aa
                    all_goals
                    try simp only [go_sem, n1, n2, n3, n4, hk1, hk2, ghk4nn, hk5, ghk6, hk6, ghk7a, ghk8aa] at ghk8abn
                    all_goals
                    rcases it_some h with ⟨hk9, h⟩ | ⟨hk9, h⟩
                    · try simp only [go_sem, n1, n2, n3, n4, hk1, hk2, ghk4nn, hk5, ghk6, hk6, ghk7a, ghk8aa, ghk8abn] at hk9
                      all_goals
                      obtain rfl := so_some h
                      refine ⟨0, fun L hL => ?_⟩
                      simp only [go_sem, ir90, E_impl_ordered_l1, R_impl_ordered_l1, ir90_b0, ir90_k0, ir90_o0, ir90_r0, hk1, hk2, lhk2, xhk2, fhk3, ghk4nn, hk5, ghk6, hk6, lhk6, xhk6, ghk7a, ghk8aa, ghk8abn, hk9]
                    · try simp only [go_sem, n1, n2, n3, n4, hk1, hk2, ghk4nn, hk5, ghk6, hk6, ghk7a, ghk8aa, ghk8abn] at hk9
                      all_goals
                      obtain rfl := so_some h
                      refine ⟨0, fun L hL => ?_⟩
                      simp only [go_sem, ir90, E_impl_ordered_l1, R_impl_ordered_l1, ir90_b0, ir90_k0, ir90_o0, ir90_r0, hk1, hk2, lhk2, xhk2, fhk3, ghk4nn, hk5, ghk6, hk6, lhk6, xhk6, ghk7a, ghk8aa, ghk8abn, hk9]
                · obtain ⟨ghk8aa, ghk8ab⟩ := and_t ghk8a
                  have ghk8abn := no_t ghk8ab
                  try simp only [go_sem, n1, n2, n3, n4, hk1, hk2, ghk4nn, hk5, ghk6, hk6, ghk7a] at ghk8aa
                  all_goals
                  try simp only [go_sem, n1, n2, n3, n4, hk1, hk2, ghk4nn, hk5, ghk6, hk6, ghk7a, ghk8aa] at ghk8abn
                  all_goals
                  try simp only [go_sem, n1, n2, n3, n4, hk1, hk2, ghk4nn, hk5, ghk6, hk6, ghk7a, ghk8aa, ghk8abn] at ghk8b
                  all_goals
                  rcases it_some h with ⟨hk9, h⟩ | ⟨hk9, h⟩
                  · try simp only [go_sem, n1, n2, n3, n4, hk1, hk2, ghk4nn, hk5, ghk6, hk6, ghk7a, ghk8aa, ghk8abn, ghk8b] at hk9
                    all_goals
                    obtain rfl := so_some h
                    refine ⟨0, fun L hL => ?_⟩
                    simp only [go_sem, ir90, E_impl_ordered_l1, R_impl_ordered_l1, ir90_b0, ir90_k0, ir90_o0, ir90_r0, hk1, hk2, lhk2, xhk2, fhk3, ghk4nn, hk5, ghk6, hk6, lhk6, xhk6, ghk7a, ghk8aa, ghk8abn, ghk8b, hk9]
                  · try simp only [go_sem, n1, n2, n3, n4, hk1, hk2, ghk4nn, hk5, ghk6, hk6, ghk7a, ghk8aa, ghk8abn, ghk8b] at hk9
                    all_goals
                    obtain rfl := so_some h
                    refine ⟨0, fun L hL => ?_⟩
                    simp only [go_sem, ir90, E_impl_ordered_l1, R_impl_ordered_l1, ir90_b0, ir90_k0, ir90_o0, ir90_r0, hk1, hk2, lhk2, xhk2, fhk3, ghk4nn, hk5, ghk6, hk6, lhk6, xhk6, ghk7a, ghk8aa, ghk8abn, ghk8b, hk9]
            · have ghk7bn := no_f ghk7b
              try simp only [go_sem, n1, n2, n3, n4, hk1, hk2, ghk4nn, hk5, ghk6, hk6] at ghk7a
              all_goals
              try simp only [go_sem, n1, n2, n3, n4, hk1, hk2, ghk4nn, hk5, ghk6, hk6, ghk7a] at ghk7bn
              all_goals
              obtain ⟨hk8, h⟩ := ck_some h
              rcases or_split hk8 with ⟨ghk8, hk8⟩ | ghk8
              · try simp only [go_sem, n1, n2, n3, n4, hk1, hk2, ghk4nn, hk5, ghk6, hk6, ghk7a, ghk7bn] at ghk8
                all_goals
                have lhk8 := ix_lt hk8
                have xhk8 := getD_mapD Fault_av faults lhk8
                try simp only [go_sem] at lhk8
                try simp only [go_sem] at xhk8
                try simp only [go_sem, n1, n2, n3, n4, hk1, hk2, ghk4nn, hk5, ghk6, hk6, ghk7a, ghk7bn, ghk8] at hk8
                all_goals
                rcases it_some h with ⟨hk9, h⟩ | ⟨hk9, h⟩
                · try simp only [go_sem, n1, n2, n3, n4, hk1, hk2, ghk4nn, hk5, ghk6, hk6, ghk7a, ghk7bn, ghk8, hk8] at hk9
                  all_goals
                  obtain rfl := so_some h
                  refine ⟨0, fun L hL => ?_⟩
                  simp only [go_sem, ir90, E_impl_ordered_l1, R_impl_ordered_l1, ir90_b0, ir90_k0, ir90_o0, ir90_r0, hk1, hk2, lhk2, xhk2, fhk3, ghk4nn, hk5, ghk6, hk6, lhk6, xhk6, ghk7a, ghk7bn, ghk8, hk8, lhk8, xhk8, hk9]
                · try simp only [go_sem, n1, n2, n3, n4, hk1, hk2, ghk4nn, hk5, ghk6, hk6, ghk7a, ghk7bn, ghk8, hk8] at hk9
                  all_goals
                  obtain rfl := so_some h
                  refine ⟨0, fun L hL => ?_⟩
                  simp only [go_sem, ir90, E_impl_ordered_l1, R_impl_ordered_l1, ir90_b0, ir90_k0, ir90_o0, ir90_r0, hk1, hk2, lhk2, xhk2, fhk3, ghk4nn, hk5, ghk6, hk6, lhk6, xhk6, ghk7a, ghk7bn, ghk8, hk8, lhk8, xhk8, hk9]
              · rcases and_f ghk8 with ghk8a | ⟨ghk8a, ghk8b⟩
                · rcases and_f ghk8a with ghk8aa | ⟨ghk8aa, ghk8ab⟩
                  · try simp only [go_sem, n1, n2, n3, n4, hk1, hk2, ghk4nn, hk5, ghk6, hk6, ghk7a, ghk7bn] at ghk8aa
                    all_goals
                    rcases it_some h with ⟨hk9, h⟩ | ⟨hk9, h⟩
                    · try simp only [go_sem, n1, n2, n3, n4, hk1, hk2, ghk4nn, hk5, ghk6, hk6, ghk7a, ghk7bn, ghk8aa] at hk9
                      all_goals
                      obtain rfl := so_some h
                      refine ⟨0, fun L hL => ?_⟩
                      simp only [go_sem, ir90, E_impl_ordered_l1, R_impl_ordered_l1, ir90_b0, ir90_k0, ir90_o0, ir90_r0, hk1, hk2, lhk2, xhk2, fhk3, ghk4nn, hk5, ghk6, hk6, lhk6, xhk6, ghk7a, ghk7bn, ghk8aa, hk9]
                    · try simp only [go_sem, n1, n2, n3, n4, hk1, hk2, ghk4nn, hk5, ghk6, hk6, ghk7a, ghk7bn, ghk8aa] at hk9
                      all_goals
                      obtain rfl := so_some h
                      refine ⟨0, fun L hL => ?_⟩
                      simp only [go_sem, ir90, E_impl_ordered_l1, R_impl_ordered_l1, ir90_b0, ir90_k0, ir90_o0, ir90_r0, hk1, hk2, lhk2, xhk2, fhk3, ghk4nn, hk5, ghk6, hk6, lhk6, xhk6, ghk7a, ghk7bn, ghk8aa, hk9]
                  · have ghk8abn := no_f ghk8ab
                    try simp only [go_sem, n1, n2, n3, n4, hk1, hk2, ghk4nn, hk5, ghk6, hk6, ghk7a, ghk7bn] at ghk8aa
                    all_goals
                    try simp only [go_sem, n1, n2, n3, n4, hk1, hk2, ghk4nn, hk5, ghk6, hk6, ghk7a, ghk7bn, ghk8aa] at ghk8abn
                    all_goals
                    rcases it_some h with ⟨hk9, h⟩ | ⟨hk9, h⟩
                    · try simp only [go_sem, n1, n2, n3, n4, hk1, hk2, ghk4nn, hk5, ghk6, hk6, ghk7a, ghk7bn, ghk8aa, ghk8abn] at hk9
                      all_goals
                      obtain rfl := so_some h
                      refine ⟨0, fun L hL => ?_⟩
                      simp only [go_sem, ir90, E_impl_ordered_l1, R_impl_ordered_l1, ir90_b0, ir90_k0, ir90_o0, ir90_r0, hk1, hk2, lhk2, xhk2, fhk3, ghk4nn, hk5, ghk6, hk6, lhk6, xhk6, ghk7a, ghk7bn, ghk8aa, ghk8abn, hk9]
                    · try simp only [go_sem, n1, n2, n3, n4, hk1, hk2, ghk4nn, hk5, ghk6, hk6, ghk7a, ghk7bn, ghk8aa, ghk8abn] at hk9
                      all_goals
                      obtain rfl := so_some h
                      refine ⟨0, fun L hL => ?_⟩
                      simp only [go_sem, ir90, E_impl_ordered_l1, R_impl_ordered_l1, ir90_b0, ir90_k0, ir90_o0, ir90_r0, hk1, hk2, lhk2, xhk2, fhk3, ghk4nn, hk5, ghk6, hk6, lhk6, xhk6, ghk7a, ghk7bn, ghk8aa, ghk8abn, hk9]
                · obtain ⟨ghk8aa, ghk8ab⟩ := and_t ghk8a
                  have ghk8abn := no_t ghk8ab
                  try simp only [go_sem, n1, n2, n3, n4, hk1, hk2, ghk4nn, hk5, ghk6, hk6, ghk7a, ghk7bn] at ghk8aa
                  all_goals
                  try simp only [go_sem, n1, n2, n3, n4, hk1, hk2, ghk4nn, hk5, ghk6, hk6, ghk7a, ghk7bn, ghk8aa] at ghk8abn
                  all_goals
                  try simp only [go_sem, n1, n2, n3, n4, hk1, hk2, ghk4nn, hk5, ghk6, hk6, ghk7a, ghk7bn, ghk8aa, ghk8abn] at ghk8b
                  all_goals
                  rcases it_some h with ⟨hk9, h⟩ | ⟨hk9, h⟩
                  · try simp only [go_sem, n1, n2, n3, n4, hk1, hk2, ghk4nn, hk5, ghk6, hk6, ghk7a, ghk7bn, ghk8aa, ghk8abn, ghk8b] at hk9
                    all_goals
                    obtain rfl := so_some h
                    refine ⟨0, fun L hL => ?_⟩
                    simp only [go_sem, ir90, E_impl_ordered_l1, R_impl_ordered_l1, ir90_b0, ir90_k0, ir90_o0, ir90_r0, hk1, hk2, lhk2, xhk2, fhk3, ghk4nn, hk5, ghk6, hk6, lhk6, xhk6, ghk7a, ghk7bn, ghk8aa, ghk8abn, ghk8b, hk9]
                  · try simp only [go_sem, n1, n2, n3, n4, hk1, hk2, ghk4nn, hk5, ghk6, hk6, ghk7a, ghk7bn, ghk8aa, ghk8abn, ghk8b] at hk9
                    all_goals
                    obtain rfl := so_some h
                    refine ⟨0, fun L hL => ?_⟩
                    simp only [go_sem, ir90, E_impl_ordered_l1, R_impl_ordered_l1, ir90_b0, ir90_k0, ir90_o0, ir90_r0, hk1, hk2, lhk2, xhk2, fhk3, ghk4nn, hk5, ghk6, hk6, lhk6, xhk6, ghk7a, ghk7bn, ghk8aa, ghk8abn, ghk8b, hk9]
        · try simp only [go_sem, n1, n2, n3, n4, hk1, hk2, ghk4nn, hk5] at ghk6
          all_goals
          obtain ⟨hk7, h⟩ := ck_some h
          rcases or_split hk7 with ⟨ghk7, hk7⟩ | ghk7
          · try simp only [go_sem, n1, n2, n3, n4, hk1, hk2, ghk4nn, hk5, ghk6] at ghk7
            all_goals
            have lhk7 := ix_lt hk7
            have xhk7 := getD_mapD Fault_av faults lhk7
            try simp only [go_sem] at lhk7
            try simp only [go_sem] at xhk7
            try simp only [go_sem, n1, n2, n3, n4, hk1, hk2, ghk4nn, hk5, ghk6, ghk7] at hk7
            all_goals
            obtain ⟨hk8, h⟩ := ck_some h
            rcases or_split hk8 with ⟨ghk8, hk8⟩ | ghk8
            · try simp only [go_sem, n1, n2, n3, n4, hk1, hk2, ghk4nn, hk5, ghk6, ghk7, hk7] at ghk8
              all_goals
              have lhk8 := ix_lt hk8
              have xhk8 := getD_mapD Fault_av faults lhk8
              try simp only [go_sem] at lhk8
              try simp only [go_sem] at xhk8
              try simp only [go_sem, n1, n2, n3, n4, hk1, hk2, ghk4nn, hk5, ghk6, ghk7, hk7, ghk8] at hk8
              all_goals
              rcases it_some h with ⟨hk9, h⟩ | ⟨hk9, h⟩
              · try simp only [go_sem, n1, n2, n3, n4, hk1, hk2, ghk4nn, hk5, ghk6, ghk7, hk7, ghk8, hk8] at hk9
                all_goals
                obtain rfl := so_some h
                refine ⟨0, fun L hL => ?_⟩
                simp only [go_sem, ir90, E_impl_ordered_l1, R_impl_ordered_l1, ir90_b0, ir90_k0, ir90_o0, ir90_r0, hk1, hk2, lhk2, xhk2, fhk3, ghk4nn, hk5, ghk6, ghk7, hk7, lhk7, xhk7, ghk8, hk8, lhk8, xhk8, hk9]
              · try simp only [go_sem, n1, n2, n3, n4, hk1, hk2, ghk4nn, hk5, ghk6, ghk7, hk7, ghk8, hk8] at hk9
                all_goals
                obtain rfl := so_some h
                refine ⟨0, fun L hL => ?_⟩
                simp only [go_sem, ir90, E_impl_ordered_l1, R_impl_ordered_l1, ir90_b0, ir90_k0, ir90_o0, ir90_r0, hk1, hk2, lhk2, xhk2, fhk3, ghk4nn, hk5, ghk6, ghk7, hk7, lhk7, xhk7, ghk8, hk8, lhk8, xhk8, hk9]
            · rcases and_f ghk8 with ghk8a | ⟨ghk8a, ghk8b⟩
              · rcases and_f ghk8a with ghk8aa | ⟨ghk8aa, ghk8ab⟩
                · try simp only [go_sem, n1, n2, n3, n4, hk1, hk2, ghk4nn, hk5, ghk6, ghk7, hk7] at ghk8aa
                  all_goals
                  rcases it_some h with ⟨hk9, h⟩ | ⟨hk9, h⟩
                  · try simp only [go_sem, n1, n2, n3, n4, hk1, hk2, ghk4nn, hk5, ghk6, ghk7, hk7, ghk8aa] at hk9
                    all_goals
                    obtain rfl := so_some h
                    refine ⟨0, fun L hL => ?_⟩
                    simp only [go_sem, ir90, E_impl_ordered_l1, R_impl_ordered_l1, ir90_b0, ir90_k0, ir90_o0, ir90_r0, hk1, hk2, lhk2, xhk2, fhk3, ghk4nn, hk5, ghk6, ghk7, hk7, lhk7, xhk7, ghk8aa, hk9]
                  · try simp only [go_sem, n1, n2, n3, n4, hk1, hk2, ghk4nn, hk5, ghk6, ghk7, hk7, ghk8aa] at hk9
                    all_goals
                    obtain rfl := so_some h
                    refine ⟨0, fun L hL => ?_⟩
                    simp only [go_sem, ir90, E_impl_ordered_l1, R_impl_ordered_l1, ir90_b0, ir90_k0, ir90_o0, ir90_r0, hk1, hk2, lhk2, xhk2, fhk3, ghk4nn, hk5, ghk6, ghk7, hk7, lhk7, xhk7, ghk8aa, hk9]
                · have ghk8abn := no_f ghk8ab
                  try simp only [go_sem, n1, n2, n3, n4, hk1, hk2, ghk4nn, hk5, ghk6, ghk7, hk7] at ghk8aa
                  all_goals
                  try simp only [go_sem, n1, n2, n3, n4, hk1, hk2, ghk4nn, hk5, ghk6, ghk7, hk7, ghk8aa] at ghk8abn
                  all_goals
                  rcases it_some h with ⟨hk9, h⟩ | ⟨hk9, h⟩
                  · try simp only [go_sem, n1, n2, n3, n4, hk1, hk2, ghk4nn, hk5, ghk6, ghk7, hk7, ghk8aa, ghk8abn] at hk9
                    all_goals
                    obtain rfl := so_some h
                    refine ⟨0, fun L hL => ?_⟩
                    simp only [go_sem, ir90, E_impl_ordered_l1, R_impl_ordered_l1, ir90_b0, ir90_k0, ir90_o0, ir90_r0, hk1, hk2, lhk2, xhk2, fhk3, ghk4nn, hk5, ghk6, ghk7, hk7, lhk7, xhk7, ghk8aa, ghk8abn, hk9]
                  · try simp only [go_sem, n1, n2, n3, n4, hk1, hk2, ghk4nn, hk5, ghk6, ghk7, hk7, ghk8aa, ghk8abn] at hk9
                    all_goals
                    obtain rfl := so_some h
                    refine ⟨0, fun L hL => ?_⟩
                    simp only [go_sem, ir90, E_impl_ordered_l1, R_impl_ordered_l1, ir90_b0, ir90_k0, ir90_o0, ir90_r0, hk1, hk2, lhk2, xhk2, fhk3, ghk4nn, hk5, ghk6, ghk7, hk7, lhk7, xhk7, ghk8aa, ghk8abn, hk9]
              · obtain ⟨ghk8aa, ghk8ab⟩ := and_t ghk8a
                have ghk8abn := no_t ghk8ab
                try simp only [go_sem, n1, n2, n3, n4, hk1, hk2, ghk4nn, hk5, ghk6, ghk7, hk7] at ghk8aa
                all_goals
                try simp only [go_sem, n1, n2, n3, n4, hk1, hk2, ghk4nn, hk5, ghk6, ghk7, hk7, ghk8aa] at ghk8abn
                all_goals
                try simp only [go_sem, n1, n2, n3, n4, hk1, hk2, ghk4nn, hk5, ghk6, ghk7, hk7, ghk8aa, ghk8abn] at ghk8b
                all_goals
                rcases it_some h with ⟨hk9, h⟩ | ⟨hk9, h⟩
                · try simp only [go_sem, n1, n2, n3, n4, hk1, hk2, ghk4nn, hk5, ghk6, ghk7, hk7, ghk8aa, ghk8abn, ghk8b] at hk9
                  all_goals
                  obtain rfl := so_some h
                  refine ⟨0, fun L hL => ?_⟩
                  simp only [go_sem, ir90, E_impl_ordered_l1, R_impl_ordered_l1, ir90_b0, ir90_k0, ir90_o0, ir90_r0, hk1, hk2, lhk2, xhk2, fhk3, ghk4nn, hk5, ghk6, ghk7, hk7, lhk7, xhk7, ghk8aa, ghk8abn, ghk8b, hk9]
                · try simp only [go_sem, n1, n2, n3, n4, hk1, hk2, ghk4nn, hk5, ghk6, ghk7, hk7, ghk8aa, ghk8abn, ghk8b] at hk9
                  all_goals
                  obtain rfl := so_some h
                  refine ⟨0, fun L hL => ?_⟩
                  simp only [go_sem, ir90, E_impl_ordered_l1, R_impl_ordered_l1, ir90_b0, ir90_k0, ir90_o0, ir90_r0, hk1, hk2, lhk2, xhk2, fhk3, ghk4nn, hk5, ghk6, ghk7, hk7, lhk7, xhk7, ghk8aa, ghk8abn, ghk8b, hk9]
          · rcases and_f ghk7 with ghk7a | ⟨ghk7a, ghk7b⟩
            · try simp only [go_sem, n1, n2, n3, n4, hk1, hk2, ghk4nn, hk5, ghk6] at ghk7a
              all_goals
              obtain ⟨hk8, h⟩ := ck_some h
              rcases or_split hk8 with ⟨ghk8, hk8⟩ | ghk8
              · try simp only [go_sem, n1, n2, n3, n4, hk1, hk2, ghk4nn, hk5, ghk6, ghk7a] at ghk8
                all_goals
                have lhk8 := ix_lt hk8
                have xhk8 := getD_mapD Fault_av faults lhk8
                try simp only [go_sem] at lhk8
                try simp only [go_sem] at xhk8
                try simp only [go_sem, n1, n2, n3, n4, hk1, hk2, ghk4nn, hk5, ghk6, ghk7a, ghk8] at hk8
                all_goals
                rcases it_some h with ⟨hk9, h⟩ | ⟨hk9, h⟩
                · try simp only [go_sem, n1, n2, n3, n4, hk1, hk2, ghk4nn, hk5, ghk6, ghk7a, ghk8, hk8] at hk9
                  all_goals
                  obtain rfl := so_some h
                  refine ⟨0, fun L hL => ?_⟩
                  simp only [go_sem, ir90, E_impl_ordered_l1, R_impl_ordered_l1, ir90_b0, ir90_k0, ir90_o0, ir90_r0, hk1, hk2, lhk2, xhk2, fhk3, ghk4nn, hk5, ghk6, ghk7a, ghk8, hk8, lhk8, xhk8, hk9]
                · try simp only [go_sem, n1, n2, n3, n4, hk1, hk2, ghk4nn, hk5, ghk6, ghk7a, ghk8, hk8] at hk9
                  all_goals
                  obtain rfl := so_some h
                  refine ⟨0, fun L hL => ?_⟩
                  simp only [go_sem, ir90, E_impl_ordered_l1, R_impl_ordered_l1, ir90_b0, ir90_k0, ir90_o0, ir90_r0, hk1, hk2, lhk2, xhk2, fhk3, ghk4nn, hk5, ghk6, ghk7a, ghk8, hk8, lhk8, xhk8, hk9]
              · rcases and_f ghk8 with ghk8a | ⟨ghk8a, ghk8b⟩
                · rcases and_f ghk8a with ghk8aa | ⟨ghk8aa, ghk8ab⟩
                  · try simp only [go_sem, n1, n2, n3, n4, hk1, hk2, ghk4nn, hk5, ghk6, ghk7a] at ghk8aa
                    all_goals
                    rcases it_some h with ⟨hk9, h⟩ | ⟨hk9, h⟩
                    · try simp only [go_sem, n1, n2, n3, n4, hk1, hk2, ghk4nn, hk5, ghk6, ghk7a, ghk8aa] at hk9
                      all_goals
                      obtain rfl := so_some h
                      refine ⟨0, fun L hL => ?_⟩
                      simp only [go_sem, ir90, E_impl_ordered_l1, R_impl_ordered_l1, ir90_b0, ir90_k0, ir90_o0, ir90_r0, hk1, hk2, lhk2, xhk2, fhk3, ghk4nn, hk5, ghk6, ghk7a, ghk8aa, hk9]
                    · try simp only [go_sem, n1, n2, n3, n4, hk1, hk2, ghk4nn, hk5, ghk6, ghk7a, ghk8aa] at hk9
                      all_goals
                      obtain rfl := so_some h
                      refine ⟨0, fun L hL => ?_⟩
                      simp only [go_sem, ir90, E_impl_ordered_l1, R_impl_ordered_l1, ir90_b0, ir90_k0, ir90_o0, ir90_r0, hk1, hk2, lhk2, xhk2, fhk3, ghk4nn, hk5, ghk6, ghk7a, ghk8aa, hk9]
                  · have ghk8abn := no_f ghk8ab
                    try simp only [go_sem, n1, n2, n3, n4, hk1, hk2, ghk4nn, hk5, ghk6, ghk7a] at ghk8aa
                    all_goals
                    try simp only [go_sem, n1, n2, n3, n4, hk1, hk2, ghk4nn, hk5, ghk6, ghk7a, ghk8aa] at ghk8abn
                    all_goals
                    rcases it_some h with ⟨hk9, h⟩ | ⟨hk9, h⟩
                    · try simp only [go_sem, n1, n2, n3, n4, hk1, hk2, ghk4nn, hk5, ghk6, ghk7a, ghk8aa, ghk8abn] at hk9
                      all_goals
                      obtain rfl := so_some h
                      refine ⟨0, fun L hL => ?_⟩
                      simp only [go_sem, ir90, E_impl_ordered_l1, R_impl_ordered_l1, ir90_b0, ir90_k0, ir90_o0, ir90_r0, hk1, hk2, lhk2, xhk2, fhk3, ghk4nn, hk5, ghk6, ghk7a, ghk8aa, ghk8abn, hk9]
                    · try simp only [go_sem, n1, n2, n3, n4, hk1, hk2, ghk4nn, hk5, ghk6, ghk7a, ghk8aa, ghk8abn] at hk9
                      all_goals
                      obtain rfl := so_some h
                      refine ⟨0, fun L hL => ?_⟩
                      simp only [go_sem, ir90, E_impl_ordered_l1, R_impl_ordered_l1, ir90_b0, ir90_k0, ir90_o0, ir90_r0, hk1, hk2, lhk2, xhk2, fhk3, ghk4nn, hk5, ghk6, ghk7a, ghk8aa, ghk8abn, hk9]
                · obtain ⟨ghk8aa, ghk8ab⟩ := and_t ghk8a
                  have ghk8abn := no_t ghk8ab
                  try simp only [go_sem, n1, n2, n3, n4, hk1, hk2, ghk4nn, hk5, ghk6, ghk7a] at ghk8aa
                  all_goals
                  try simp only [go_sem, n1, n2, n3, n4, hk1, hk2, ghk4nn, hk5, ghk6, ghk7a, ghk8aa] at ghk8abn
                  all_goals
                  try simp only [go_sem, n1, n2, n3, n4, hk1, hk2, ghk4nn, hk5, ghk6, ghk7a, ghk8aa, ghk8abn] at ghk8b
                  all_goals
                  rcases it_some h with ⟨hk9, h⟩ | ⟨hk9, h⟩
                  · try simp only [go_sem, n1, n2, n3, n4, hk1, hk2, ghk4nn, hk5, ghk6, ghk7a, ghk8aa, ghk8abn, ghk8b] at hk9
                    all_goals
                    obtain rfl := so_some h
                    refine ⟨0, fun L hL => ?_⟩
                    simp only [go_sem, ir90, E_impl_ordered_l1, R_impl_ordered_l1, ir90_b0, ir90_k0, ir90_o0, ir90_r0, hk1, hk2, lhk2, xhk2, fhk3, ghk4nn, hk5, ghk6, ghk7a, ghk8aa, ghk8abn, ghk8b, hk9]
                  · try simp only [go_sem, n1, n2, n3, n4, hk1, hk2, ghk4nn, hk5, ghk6, ghk7a, ghk8aa, ghk8abn, ghk8b] at hk9
                    all_goals
                    obtain rfl := so_some h
                    refine ⟨0, fun L hL => ?_⟩
                    simp only [go_sem, ir90, E_impl_ordered_l1, R_impl_ordered_l1, ir90_b0, ir90_k0, ir90_o0, ir90_r0, hk1, hk2, lhk2, xhk2, fhk3, ghk4nn, hk5, ghk6, ghk7a, ghk8aa, ghk8abn, ghk8b, hk9]
            · have ghk7bn := no_f ghk7b
              try simp only [go_sem, n1, n2, n3, n4, hk1, hk2, ghk4nn, hk5, ghk6] at ghk7a
              all_goals
              try simp only [go_sem, n1, n2, n3, n4, hk1, hk2, ghk4nn, hk5, ghk6, ghk7a] at ghk7bn
              all_goals
              obtain ⟨hk8, h⟩ := ck_some h
              rcases or_split hk8 with ⟨ghk8, hk8⟩ | ghk8
              · try simp only [go_sem, n1, n2, n3, n4, hk1, hk2, ghk4nn, hk5, ghk6, ghk7a, ghk7bn] at ghk8
                all_goals
                have lhk8 := ix_lt hk8
                have xhk8 := getD_mapD Fault_av faults lhk8
                try simp only [go_sem] at lhk8
                try simp only [go_sem] at xhk8
                try simp only [go_sem, n1, n2, n3, n4, hk1, hk2, ghk4nn, hk5, ghk6, ghk7a, ghk7bn, ghk8] at hk8
                all_goals
                rcases it_some h with ⟨hk9, h⟩ | ⟨hk9, h⟩
                · try simp only [go_sem, n1, n2, n3, n4, hk1, hk2, ghk4nn, hk5, ghk6, ghk7a, ghk7bn, ghk8, hk8] at hk9
                  all_goals
                  obtain rfl := so_some h
                  refine ⟨0, fun L hL => ?_⟩
                  simp only [go_sem, ir90, E_impl_ordered_l1, R_impl_ordered_l1, ir90_b0, ir90_k0, ir90_o0, ir90_r0, hk1, hk2, lhk2, xhk2, fhk3, ghk4nn, hk5, ghk6, ghk7a, ghk7bn, ghk8, hk8, lhk8, xhk8, hk9]
                · try simp only [go_sem, n1, n2, n3, n4, hk1, hk2, ghk4nn, hk5, ghk6, ghk7a, ghk7bn, ghk8, hk8] at hk9
                  all_goals
                  obtain rfl := so_some h
                  refine ⟨0, fun L hL => ?_⟩
                  simp only [go_sem, ir90, E_impl_ordered_l1, R_impl_ordered_l1, ir90_b0, ir90_k0, ir90_o0, ir90_r0, hk1, hk2, lhk2, xhk2, fhk3, ghk4nn, hk5, ghk6, ghk7a, ghk7bn, ghk8, hk8, lhk8, xhk8, hk9]
              · rcases and_f ghk8 with ghk8a | ⟨ghk8a, ghk8b⟩
                · rcases and_f ghk8a with ghk8aa | ⟨ghk8aa, ghk8ab⟩
                  · try simp only [go_sem, n1, n2, n3, n4, hk1, hk2, ghk4nn, hk5, ghk6, ghk7a, ghk7bn] at ghk8aa
                    all_goals
                    rcases it_some h with ⟨hk9, h⟩ | ⟨hk9, h⟩
                    · try simp only [go_sem, n1, n2, n3, n4, hk1, hk2, ghk4nn, hk5, ghk6, ghk7a, ghk7bn, ghk8aa] at hk9
                      all_goals
                      obtain rfl := so_some h
                      refine ⟨0, fun L hL => ?_⟩
                      simp only [go_sem, ir90, E_impl_ordered_l1, R_impl_ordered_l1, ir90_b0, ir90_k0, ir90_o0, ir90_r0, hk1, hk2, lhk2, xhk2, fhk3, ghk4nn, hk5, ghk6, ghk7a, ghk7bn, ghk8aa, hk9]
                    · try simp only [go_sem, n1, n2, n3, n4, hk1, hk2, ghk4nn, hk5, ghk6, ghk7a, ghk7bn, ghk8aa] at hk9
                      all_goals
                      obtain rfl := so_some h
                      refine ⟨0, fun L hL => ?_⟩
                      simp only [go_sem, ir90, E_impl_ordered_l1, R_impl_ordered_l1, ir90_b0, ir90_k0, ir90_o0, ir90_r0, hk1, hk2, lhk2, xhk2, fhk3, ghk4nn, hk5, ghk6, ghk7a, ghk7bn, ghk8aa, hk9]
                  · have ghk8abn := no_f ghk8ab
                    try simp only [go_sem, n1, n2, n3, n4, hk1, hk2, ghk4nn, hk5, ghk6, ghk7a, ghk7bn] at ghk8aa
                    all_goals
                    try simp only [go_sem, n1, n2, n3, n4, hk1, hk2, ghk4nn, hk5, ghk6, ghk7a, ghk7bn, ghk8aa] at ghk8abn
                    all_goals
                    rcases it_some h with ⟨hk9, h⟩ | ⟨hk9, h⟩
                    · try simp only [go_sem, n1, n2, n3, n4, hk1, hk2, ghk4nn, hk5, ghk6, ghk7a, ghk7bn, ghk8aa, ghk8abn] at hk9
                      all_goals
                      obtain rfl := so_some h
                      refine ⟨0, fun L hL => ?_⟩
                      simp only [go_sem, ir90, E_impl_ordered_l1, R_impl_ordered_l1, ir90_b0, ir90_k0, ir90_o0, ir90_r0, hk1, hk2, lhk2, xhk2, fhk3, ghk4nn, hk5, ghk6, ghk7a, ghk7bn, ghk8aa, ghk8abn, hk9]
                    · try simp only [go_sem, n1, n2, n3, n4, hk1, hk2, ghk4nn, hk5, ghk6, ghk7a, ghk7bn, ghk8aa, ghk8abn] at hk9
                      all_goals
                      obtain rfl := so_some h
                      refine ⟨0, fun L hL => ?_⟩
                      simp only [go_sem, ir90, E_impl_ordered_l1, R_impl_ordered_l1, ir90_b0, ir90_k0, ir90_o0, ir90_r0, hk1, hk2, lhk2, xhk2, fhk3, ghk4nn, hk5, ghk6, ghk7a, ghk7bn, ghk8aa, ghk8abn, hk9]
                · obtain ⟨ghk8aa, ghk8ab⟩ := and_t ghk8a
                  have ghk8abn := no_t ghk8ab
                  try simp only [go_sem, n1, n2, n3, n4, hk1, hk2, ghk4nn, hk5, ghk6, ghk7a, ghk7bn] at ghk8aa
                  all_goals
                  try simp only [go_sem, n1, n2, n3, n4, hk1, hk2, ghk4nn, hk5, ghk6, ghk7a, ghk7bn, ghk8aa] at ghk8abn
                  all_goals
                  try simp only [go_sem, n1, n2, n3, n4, hk1, hk2, ghk4nn, hk5, ghk6, ghk7a, ghk7bn, ghk8aa, ghk8abn] at ghk8b
                  all_goals
                  rcases it_some h with ⟨hk9, h⟩ | ⟨hk9, h⟩
                  · try simp only [go_sem, n1, n2, n3, n4, hk1, hk2, ghk4nn, hk5, ghk6, ghk7a, ghk7bn, ghk8aa, ghk8abn, ghk8b] at hk9
                    all_goals
                    obtain rfl := so_some h
                    refine ⟨0, fun L hL => ?_⟩
                    simp only [go_sem, ir90, E_impl_ordered_l1, R_impl_ordered_l1, ir90_b0, ir90_k0, ir90_o0, ir90_r0, hk1, hk2, lhk2, xhk2, fhk3, ghk4nn, hk5, ghk6, ghk7a, ghk7bn, ghk8aa, ghk8abn, ghk8b, hk9]
                  · try simp only [go_sem, n1, n2, n3, n4, hk1, hk2, ghk4nn, hk5, ghk6, ghk7a, ghk7bn, ghk8aa, ghk8abn, ghk8b] at hk9
                    all_goals
                    obtain rfl := so_some h
                    refine ⟨0, fun L hL => ?_⟩
                    simp only [go_sem, ir90, E_impl_ordered_l1, R_impl_ordered_l1, ir90_b0, ir90_k0, ir90_o0, ir90_r0, hk1, hk2, lhk2, xhk2, fhk3, ghk4nn, hk5, ghk6, ghk7a, ghk7bn, ghk8aa, ghk8abn, ghk8b, hk9]
  · try simp only [go_sem, n1, n2, n3, n4] at hk1
    all_goals
    obtain rfl := so_some h
    refine ⟨0, fun L hL => ?_⟩
    simp only [go_sem, ir90, E_impl_ordered_l1, R_impl_ordered_l1, ir90_b0, ir90_k0, ir90_o0, ir90_r0, hk1]

theorem Fs_impl_ordered {faults : List Fault} {estimates : Int} {y_ : Bool} (h : impl_ordered faults estimates = some y_) : c_impl_ordered.F [.sl 2 (List.map Fault_av faults), .int .i64 estimates] = ⟨true, .bool y_, [.any, .any]⟩ := by
  refine mkF_E rfl ?_
  dsimp only [impl_ordered] at h
  obtain ⟨y_10, hk10, h⟩ := bd_some h
  obtain ⟨Lhk10, ehk10⟩ := impl_ordered_l1_ex hk10
  rcases y_10 with y_10a | y_10b
  · dsimp only at h
    obtain rfl := so_some h
    refine ⟨Lhk10, fun L hL => ?_⟩
    have ehk10 := ehk10 L (by omega)
    try simp only [go_sem, E_impl_ordered_l1, R_impl_ordered_l1, ir90_k0, ir90_o0, ir90_r0] at ehk10
    simp only [go_sem, ir90, E_impl_ordered_l1, R_impl_ordered_l1, ir90_k0, ir90_o0, ir90_r0, ehk10]
  · dsimp only at h
    obtain rfl := so_some h
    refine ⟨Lhk10, fun L hL => ?_⟩
    have ehk10 := ehk10 L (by omega)
    try simp only [go_sem, E_impl_ordered_l1, R_impl_ordered_l1, ir90_k0, ir90_o0, ir90_r0] at ehk10
    simp only [go_sem, ir90, E_impl_ordered_l1, R_impl_ordered_l1, ir90_k0, ir90_o0, ir90_r0, ehk10]


def ir58_v : List Nat := [0, 1, 4]
def ir58 : AFn := ⟨2, 3, .seq (.region false [
    ⟨.var 2, 4, none, .mov (.c (.int .i64 (0)))⟩])
 (.seq (.block 0 (.test false [
     ⟨.push, 6, none, .mov (.v 0)⟩,
     ⟨.push, 7, none, .call 39 [(.s 0)]⟩,
     ⟨.push, 8, none, .un .not (.s 0)⟩,
     ⟨.push, 5, none, .mov (.s 0)⟩] (.s 0)
   (.seq (.region false [
       ⟨.var 2, 4, none, .mov (.c (.int .i64 (1)))⟩])
    (.ret))
   (.test false [
      ⟨.push, 10, none, .mov (.v 1)⟩,
      ⟨.push, 11, none, .mov (.v 0)⟩,
      ⟨.push, 12, none, .call 91 [(.s 0)]⟩,
      ⟨.push, 13, none, .call 90 [(.s 2), (.s 0)]⟩,
      ⟨.push, 14, none, .un .not (.s 0)⟩,
      ⟨.push, 9, none, .mov (.s 0)⟩] (.s 0)
    (.seq (.region false [
        ⟨.var 2, 4, none, .mov (.c (.int .i64 (2)))⟩])
     (.ret))
    (.skip))))
 (.seq (.region false [
    ⟨.var 2, 4, none, .mov (.c (.int .i64 (0)))⟩])
 (.ret))), [.t 2]⟩
noncomputable def t_impl_audited : List (Nat × Ctr) := [(39, c_impl_ValidEstimates), (91, c_impl_count_impl_Estimate), (90, c_impl_ordered)]
theorem lk_impl_audited_39 : look t_impl_audited 39 = some c_impl_ValidEstimates := rfl
theorem lk_impl_audited_91 : look t_impl_audited 91 = some c_impl_count_impl_Estimate := rfl
theorem lk_impl_audited_90 : look t_impl_audited 90 = some c_impl_ordered := rfl
noncomputable def c_impl_audited : Ctr := mkF t_impl_audited ir58 [.bor, .bor]
theorem s_impl_audited : Sound Try.prog 58 c_impl_audited := mkF_sound _ rfl (snd_cons s_impl_ValidEstimates (snd_cons s_impl_count_impl_Estimate (snd_cons s_impl_ordered snd_nil))) (by kernel_rfl : chkFn Try.prog 58 ir58 ir58_v = true)
theorem M_impl_audited : c_impl_audited.modes = [.bor, .bor] := rfl
theorem Fl_impl_audited : c_impl_audited.flat = true := rfl
attribute [go_sem] M_impl_audited Fl_impl_audited
attribute [go_sem] lk_impl_audited_39 lk_impl_audited_91 lk_impl_audited_90
theorem Fs_impl_audited {list : List Estimate} {faults : List Fault} {y_ : Int} (h : impl_audited list faults = some y_) : c_impl_audited.F [.sl 5 (List.map Estimate_av list), .sl 2 (List.map Fault_av faults)] = ⟨true, .int .i64 y_, [.any, .any]⟩ := by
  refine mkF_E rfl ?_
  dsimp only [impl_audited] at h
  obtain ⟨y_1, hk1, h⟩ := bd_some h
  have fhk1 := Fs_impl_ValidEstimates hk1
  try simp only [go_sem] at fhk1
  rcases it_some h with ⟨hk2, h⟩ | ⟨hk2, h⟩
  · try simp only [go_sem, n1, n2, n3, n4] at hk2
    all_goals
    obtain rfl := so_some h
    refine ⟨0, fun L hL => ?_⟩
    simp only [go_sem, ir58, fhk1, hk2]
  · try simp only [go_sem, n1, n2, n3, n4] at hk2
    all_goals
    obtain ⟨y_3, hk3, h⟩ := bd_some h
    have fhk3 := Fs_impl_count_impl_Estimate hk3
    try simp only [go_sem] at fhk3
    obtain ⟨y_4, hk4, h⟩ := bd_some h
    have fhk4 := Fs_impl_ordered hk4
    try simp only [go_sem] at fhk4
    rcases it_some h with ⟨hk5, h⟩ | ⟨hk5, h⟩
    · try simp only [go_sem, n1, n2, n3, n4, hk2] at hk5
      all_goals
      obtain rfl := so_some h
      refine ⟨0, fun L hL => ?_⟩
      simp only [go_sem, ir58, fhk1, hk2, fhk3, fhk4, hk5]
    · try simp only [go_sem, n1, n2, n3, n4, hk2] at hk5
      all_goals
      obtain rfl := so_some h
      refine ⟨0, fun L hL => ?_⟩
      simp only [go_sem, ir58, fhk1, hk2, fhk3, fhk4, hk5]


def ir93_v : List Nat := [0, 1, 2, 3]
def ir93 : AFn := ⟨2, 4, .seq (.region false [
    ⟨.var 2, 2, none, .box (.v 0)⟩,
    ⟨.var 3, 3, none, .mov (.c (.bool false))⟩])
 (.seq (.region false [
    ⟨.push, 4, none, .fldAddr 0 (.v 2)⟩,
    ⟨.push, 5, none, .load false 1 (.s 0)⟩,
    ⟨.push, 6, none, .load false 1 (.v 1)⟩,
    ⟨.push, 7, none, .bin false .eql (.s 1) (.s 0)⟩,
    ⟨.var 3, 3, none, .mov (.s 0)⟩])
 (.ret)), [.t 3]⟩
noncomputable def t_impl_isFaulty_c1 : List (Nat × Ctr) := []
noncomputable def c_impl_isFaulty_c1 : Ctr := mkF t_impl_isFaulty_c1 ir93 [.bor, .bor]
theorem s_impl_isFaulty_c1 : Sound Try.prog 93 c_impl_isFaulty_c1 := mkF_sound _ rfl snd_nil (by kernel_rfl : chkFn Try.prog 93 ir93 ir93_v = true)
theorem M_impl_isFaulty_c1 : c_impl_isFaulty_c1.modes = [.bor, .bor] := rfl
theorem Fl_impl_isFaulty_c1 : c_impl_isFaulty_c1.flat = true := rfl
attribute [go_sem] M_impl_isFaulty_c1 Fl_impl_isFaulty_c1
theorem Fs_impl_isFaulty_c1 {x : Fault} {t1 : Int} {y_ : Bool} (h : impl_isFaulty_c1 x t1 = some y_) : c_impl_isFaulty_c1.F [Fault_av x, .ptr 1 [.int .i64 t1] 0 0] = ⟨true, .bool y_, [.any, .any]⟩ := by
  refine mkF_E rfl ?_
  dsimp only [impl_isFaulty_c1] at h
  obtain rfl := so_some h
  refine ⟨0, fun L hL => ?_⟩
  simp only [go_sem, ir93]


def ir121_b0 : IR := .seq (.region false [
    ⟨.var 6, 9, none, .bin false .lss (.v 5) (.v 4)⟩])
 (.seq (.cond (.v 6) (.skip)
  (.exit 0))
 (.seq (.block 1 (.seq (.region false [
      ⟨.push, 10, none, .mov (.v 5)⟩,
      ⟨.var 3, 5, none, .mov (.s 0)⟩])
   (.test false [
     ⟨.push, 11, none, .mov (.v 1)⟩,
     ⟨.push, 12, none, .mov (.v 0)⟩,
     ⟨.push, 13, none, .mov (.v 3)⟩,
     ⟨.push, 14, none, .ixAddr 2 (.s 1) (.s 0)⟩,
     ⟨.push, 15, none, .load true 2 (.s 0)⟩,
     ⟨.push, 16, none, .callv (.s 4) [(.s 0)]⟩] (.s 0)
   (.seq (.region false [
       ⟨.push, 17, none, .mov (.v 3)⟩,
       ⟨.var 2, 4, none, .mov (.s 0)⟩])
    (.ret))
   (.skip))))
 (.region false [
   ⟨.push, 18, none, .bin false .add (.v 5) (.c (.int .i64 (1)))⟩,
   ⟨.var 5, 8, none, .mov (.s 0)⟩])))
def ir121_k0 : List Bool := [true, true, false, false, true, true, false]
def ir121_o0 : List Bool := [false, false, false, false, false, false, false]
def ir121_r0 : List Bool := [false, false, true, false, false, false, false]
def ir121_v : List Nat := [0, 1, 4, 5, 7, 8, 9]
def ir121 : AFn := ⟨2, 7, .seq (.region false [
    ⟨.var 2, 4, none, .mov (.c (.int .i64 (0)))⟩])
 (.seq (.seq (.region false [
     ⟨.push, 6, none, .mov (.v 0)⟩,
     ⟨.var 4, 7, none, .len false (.s 0)⟩,
     ⟨.var 5, 8, none, .mov (.c (.int .i64 (0)))⟩])
  (.block 0 (.loop ir121_k0 ir121_o0 ir121_r0 ir121_b0)))
 (.seq (.region false [
    ⟨.var 2, 4, none, .mov (.c (.int .i64 (-1)))⟩])
 (.ret))), [.t 2]⟩
noncomputable def t_slices_IndexFunc_impl_Fault_impl_Fault__impl_isFaulty_c1 : List (Nat × Ctr) := [(93, c_impl_isFaulty_c1)]
theorem lk_slices_IndexFunc_impl_Fault_impl_Fault__impl_isFaulty_c1_93 : look t_slices_IndexFunc_impl_Fault_impl_Fault__impl_isFaulty_c1 93 = some c_impl_isFaulty_c1 := rfl
noncomputable def c_slices_IndexFunc_impl_Fault_impl_Fault__impl_isFaulty_c1 : Ctr := mkF t_slices_IndexFunc_impl_Fault_impl_Fault__impl_isFaulty_c1 ir121 [.bor, .bor]
theorem s_slices_IndexFunc_impl_Fault_impl_Fault__impl_isFaulty_c1 : Sound Try.prog 121 c_slices_IndexFunc_impl_Fault_impl_Fault__impl_isFaulty_c1 := mkF_sound _ rfl (snd_cons s_impl_isFaulty_c1 snd_nil) (by kernel_rfl : chkFn Try.prog 121 ir121 ir121_v = true)
theorem M_slices_IndexFunc_impl_Fault_impl_Fault__impl_isFaulty_c1 : c_slices_IndexFunc_impl_Fault_impl_Fault__impl_isFaulty_c1.modes = [.bor, .bor] := rfl
theorem Fl_slices_IndexFunc_impl_Fault_impl_Fault__impl_isFaulty_c1 : c_slices_IndexFunc_impl_Fault_impl_Fault__impl_isFaulty_c1.flat = true := rfl
attribute [go_sem] M_slices_IndexFunc_impl_Fault_impl_Fault__impl_isFaulty_c1 Fl_slices_IndexFunc_impl_Fault_impl_Fault__impl_isFaulty_c1
attribute [go_sem] lk_slices_IndexFunc_impl_Fault_impl_Fault__impl_isFaulty_c1_93
def E_slices_IndexFunc_impl_Fault_impl_Fault__impl_isFaulty_c1_l1 (s_ : List Fault) (c : Int) (t7 : Int) : Int → St
  | t8 => ⟨[.sl 2 (List.map Fault_av s_), .fn (.func 93) [] [.ptr 1 [.int .i64 c] 0 0], .any, .any, .int .i64 t7, .int .i64 t8, .any], [], [], true⟩
def R_slices_IndexFunc_impl_Fault_impl_Fault__impl_isFaulty_c1_l1 (s_ : List Fault) (c : Int) (t7 : Int) : (Unit ⊕ Int) → Res
  | .inl y => (.exit 0, ⟨[.any, .any, .any, .any, .any, .any, .any], [], [], true⟩)
  | .inr y => (.ret, ⟨[.any, .any, .int .i64 y, .any, .any, .any, .any], [], [], true⟩)
theorem slices_IndexFunc_impl_Fault_impl_Fault__impl_isFaulty_c1_l1_ex {s_ : List Fault} {c : Int} {t7 : Int} {sgm_ : Int} {rho_ : Unit ⊕ Int} (h : whileE (slices_IndexFunc_impl_Fault_impl_Fault__impl_isFaulty_c1_l1 s_ c t7) sgm_ = some rho_) : ∃ L0, ∀ L, L0 ≤ L → iter (exec (look t_slices_IndexFunc_impl_Fault_impl_Fault__impl_isFaulty_c1) L ir121_b0) ir121_k0 ir121_o0 ir121_r0 L (E_slices_IndexFunc_impl_Fault_impl_Fault__impl_isFaulty_c1_l1 s_ c t7 sgm_) = R_slices_IndexFunc_impl_Fault_impl_Fault__impl_isFaulty_c1_l1 s_ c t7 rho_ := by
  refine loop_ex (E := E_slices_IndexFunc_impl_Fault_impl_Fault__impl_isFaulty_c1_l1 s_ c t7) (R := R_slices_IndexFunc_impl_Fault_impl_Fault__impl_isFaulty_c1_l1 s_ c t7) (fun y => by first | (intro c; cases c) | (rcases y with y | y <;> (intro c; cases c)) | (rcases y with y | y | y <;> (intro c; cases c))) ?_ h
  clear h
  intro t8 o_ h
  dsimp only [slices_IndexFunc_impl_Fault_impl_Fault__impl_isFaulty_c1_l1] at h
  rcases it_some h with ⟨hk1, h⟩ | ⟨hk1, h⟩
  · try simp only [go_sem, n1, n2, n3, n4] at hk1
    all_goals
    obtain ⟨hk2, h⟩ := ck_some h
    have lhk2 := ix_lt hk2
    have xhk2 := getD_mapD Fault_av s_ lhk2
    try simp only [go_sem] at lhk2
    try simp only [go_sem] at xhk2
    try simp only [go_sem, n1, n2, n3, n4, hk1] at hk2
    all_goals
    obtain ⟨y_3, hk3, h⟩ := bd_some h
    have fhk3 := Fs_impl_isFaulty_c1 hk3
    try simp only [go_sem] at fhk3
    rcases it_some h with ⟨hk4, h⟩ | ⟨hk4, h⟩
    · try simp only [go_sem, n1, n2, n3, n4, hk1, hk2] at hk4
      all_goals
      obtain rfl := so_some h
      refine ⟨0, fun L hL => ?_⟩
      simp only [go_sem, ir121, E_slices_IndexFunc_impl_Fault_impl_Fault__impl_isFaulty_c1_l1, R_slices_IndexFunc_impl_Fault_impl_Fault__impl_isFaulty_c1_l1, ir121_b0, ir121_k0, ir121_o0, ir121_r0, hk1, hk2, lhk2, xhk2, fhk3, hk4]
    · try simp only [go_sem, n1, n2, n3, n4, hk1, hk2] at hk4
      all_goals
      obtain rfl := so_some h
      refine ⟨0, fun L hL => ?_⟩
      simp only [go_sem, ir121, E_slices_IndexFunc_impl_Fault_impl_Fault__impl_isFaulty_c1_l1, R_slices_IndexFunc_impl_Fault_impl_Fault__impl_isFaulty_c1_l1, ir121_b0, ir121_k0, ir121_o0, ir121_r0, hk1, hk2, lhk2, xhk2, fhk3, hk4]
  · try simp only [go_sem, n1, n2, n3, n4] at hk1
    all_goals
    obtain rfl := so_some h
    refine ⟨0, fun L hL => ?_⟩
    simp only [go_sem, ir121, E_slices_IndexFunc_impl_Fault_impl_Fault__impl_isFaulty_c1_l1, R_slices_IndexFunc_impl_Fault_impl_Fault__impl_isFaulty_c1_l1, ir121_b0, ir121_k0, ir121_o0, ir121_r0, hk1]

theorem Fs_slices_IndexFunc_impl_Fault_impl_Fault__impl_isFaulty_c1 {s_ : List Fault} {f_c0 : Int} {y_ : Int} (h : slices_IndexFunc_impl_Fault_impl_Fault__impl_isFaulty_c1 s_ f_c0 = some y_) : c_slices_IndexFunc_impl_Fault_impl_Fault__impl_isFaulty_c1.F [.sl 2 (List.map Fault_av s_), .fn (.func 93) [] [.ptr 1 [.int .i64 f_c0] 0 0]] = ⟨true, .int .i64 y_, [.any, .any]⟩ := by
  refine mkF_E rfl ?_
  dsimp only [slices_IndexFunc_impl_Fault_impl_Fault__impl_isFaulty_c1] at h
  obtain ⟨y_5, hk5, h⟩ := bd_some h
  obtain ⟨Lhk5, ehk5⟩ := slices_IndexFunc_impl_Fault_impl_Fault__impl_isFaulty_c1_l1_ex hk5
  rcases y_5 with y_5a | y_5b
  · dsimp only at h
    obtain rfl := so_some h
    refine ⟨Lhk5, fun L hL => ?_⟩
    have ehk5 := ehk5 L (by omega)
    try simp only [go_sem, E_slices_IndexFunc_impl_Fault_impl_Fault__impl_isFaulty_c1_l1, R_slices_IndexFunc_impl_Fault_impl_Fault__impl_isFaulty_c1_l1, ir121_k0, ir121_o0, ir121_r0] at ehk5
    simp only [go_sem, ir121, E_slices_IndexFunc_impl_Fault_impl_Fault__impl_isFaulty_c1_l1, R_slices_IndexFunc_impl_Fault_impl_Fault__impl_isFaulty_c1_l1, ir121_k0, ir121_o0, ir121_r0, ehk5]
  · dsimp only at h
    obtain rfl := so_some h
    refine ⟨Lhk5, fun L hL => ?_⟩
    have ehk5 := ehk5 L (by omega)
    try simp only [go_sem, E_slices_IndexFunc_impl_Fault_impl_Fault__impl_isFaulty_c1_l1, R_slices_IndexFunc_impl_Fault_impl_Fault__impl_isFaulty_c1_l1, ir121_k0, ir121_o0, ir121_r0] at ehk5
    simp only [go_sem, ir121, E_slices_IndexFunc_impl_Fault_impl_Fault__impl_isFaulty_c1_l1, R_slices_IndexFunc_impl_Fault_impl_Fault__impl_isFaulty_c1_l1, ir121_k0, ir121_o0, ir121_r0, ehk5]


def ir92_v : List Nat := [0, 1, 4]
def ir92 : AFn := ⟨2, 3, .seq (.region false [
    ⟨.var 2, 4, none, .mov (.c (.bool false))⟩])
 (.seq (.region false [
    ⟨.push, 5, none, .mov (.v 0)⟩,
    ⟨.push, 6, none, .mov (.v 1)⟩,
    ⟨.push, 7, none, .call 121 [(.s 1), (.s 0)]⟩,
    ⟨.push, 8, none, .bin false .geq (.s 0) (.c (.int .i64 (0)))⟩,
    ⟨.var 2, 4, none, .mov (.s 0)⟩])
 (.ret)), [.t 2]⟩
noncomputable def t_slices_ContainsFunc_impl_Fault_impl_Fault__impl_isFaulty_c1 : List (Nat × Ctr) := [(121, c_slices_IndexFunc_impl_Fault_impl_Fault__impl_isFaulty_c1)]
theorem lk_slices_ContainsFunc_impl_Fault_impl_Fault__impl_isFaulty_c1_121 : look t_slices_ContainsFunc_impl_Fault_impl_Fault__impl_isFaulty_c1 121 = some c_slices_IndexFunc_impl_Fault_impl_Fault__impl_isFaulty_c1 := rfl
noncomputable def c_slices_ContainsFunc_impl_Fault_impl_Fault__impl_isFaulty_c1 : Ctr := mkF t_slices_ContainsFunc_impl_Fault_impl_Fault__impl_isFaulty_c1 ir92 [.bor, .bor]
theorem s_slices_ContainsFunc_impl_Fault_impl_Fault__impl_isFaulty_c1 : Sound Try.prog 92 c_slices_ContainsFunc_impl_Fault_impl_Fault__impl_isFaulty_c1 := mkF_sound _ rfl (snd_cons s_slices_IndexFunc_impl_Fault_impl_Fault__impl_isFaulty_c1 snd_nil) (by kernel_rfl : chkFn Try.prog 92 ir92 ir92_v = true)
theorem M_slices_ContainsFunc_impl_Fault_impl_Fault__impl_isFaulty_c1 : c_slices_ContainsFunc_impl_Fault_impl_Fault__impl_isFaulty_c1.modes = [.bor, .bor] := rfl
theorem Fl_slices_ContainsFunc_impl_Fault_impl_Fault__impl_isFaulty_c1 : c_slices_ContainsFunc_impl_Fault_impl_Fault__impl_isFaulty_c1.flat = true := rfl
attribute [go_sem] M_slices_ContainsFunc_impl_Fault_impl_Fault__impl_isFaulty_c1 Fl_slices_ContainsFunc_impl_Fault_impl_Fault__impl_isFaulty_c1
attribute [go_sem] lk_slices_ContainsFunc_impl_Fault_impl_Fault__impl_isFaulty_c1_121
theorem Fs_slices_ContainsFunc_impl_Fault_impl_Fault__impl_isFaulty_c1 {s_ : List Fault} {f_c0 : Int} {y_ : Bool} (h : slices_ContainsFunc_impl_Fault_impl_Fault__impl_isFaulty_c1 s_ f_c0 = some y_) : c_slices_ContainsFunc_impl_Fault_impl_Fault__impl_isFaulty_c1.F [.sl 2 (List.map Fault_av s_), .fn (.func 93) [] [.ptr 1 [.int .i64 f_c0] 0 0]] = ⟨true, .bool y_, [.any, .any]⟩ := by
  refine mkF_E rfl ?_
  dsimp only [slices_ContainsFunc_impl_Fault_impl_Fault__impl_isFaulty_c1] at h
  obtain ⟨y_1, hk1, h⟩ := bd_some h
  have fhk1 := Fs_slices_IndexFunc_impl_Fault_impl_Fault__impl_isFaulty_c1 hk1
  try simp only [go_sem] at fhk1
  obtain rfl := so_some h
  refine ⟨0, fun L hL => ?_⟩
  simp only [go_sem, ir92, fhk1]


def ir59_v : List Nat := [0, 1, 3, 4]
def ir59 : AFn := ⟨2, 4, .seq (.region false [
    ⟨.var 2, 3, none, .box (.v 1)⟩,
    ⟨.var 3, 4, none, .mov (.c (.bool false))⟩])
 (.seq (.region false [
    ⟨.push, 5, none, .mov (.v 0)⟩,
    ⟨.push, 6, none, .mkFn (.func 93) [] [(.v 2)]⟩,
    ⟨.push, 7, none, .call 92 [(.s 1), (.s 0)]⟩,
    ⟨.var 3, 4, none, .mov (.s 0)⟩])
 (.ret)), [.t 3]⟩
noncomputable def t_impl_isFaulty : List (Nat × Ctr) := [(92, c_slices_ContainsFunc_impl_Fault_impl_Fault__impl_isFaulty_c1)]
theorem lk_impl_isFaulty_92 : look t_impl_isFaulty 92 = some c_slices_ContainsFunc_impl_Fault_impl_Fault__impl_isFaulty_c1 := rfl
noncomputable def c_impl_isFaulty : Ctr := mkF t_impl_isFaulty ir59 [.bor, .bor]
theorem s_impl_isFaulty : Sound Try.prog 59 c_impl_isFaulty := mkF_sound _ rfl (snd_cons s_slices_ContainsFunc_impl_Fault_impl_Fault__impl_isFaulty_c1 snd_nil) (by kernel_rfl : chkFn Try.prog 59 ir59 ir59_v = true)
theorem M_impl_isFaulty : c_impl_isFaulty.modes = [.bor, .bor] := rfl
theorem Fl_impl_isFaulty : c_impl_isFaulty.flat = true := rfl
attribute [go_sem] M_impl_isFaulty Fl_impl_isFaulty
attribute [go_sem] lk_impl_isFaulty_92
theorem Fs_impl_isFaulty {faults : List Fault} {i : Int} {y_ : Bool} (h : impl_isFaulty faults i = some y_) : c_impl_isFaulty.F [.sl 2 (List.map Fault_av faults), .int .i64 i] = ⟨true, .bool y_, [.any, .any]⟩ := by
  refine mkF_E rfl ?_
  dsimp only [impl_isFaulty] at h
  obtain ⟨y_1, hk1, h⟩ := bd_some h
  have fhk1 := Fs_slices_ContainsFunc_impl_Fault_impl_Fault__impl_isFaulty_c1 hk1
  try simp only [go_sem] at fhk1
  obtain rfl := so_some h
  refine ⟨0, fun L hL => ?_⟩
  simp only [go_sem, ir59, fhk1]


def ir20_b0 : IR := .seq (.region false [
    ⟨.var 11, 20, none, .bin false .lss (.v 10) (.v 9)⟩])
 (.seq (.cond (.v 11) (.skip)
  (.exit 0))
 (.seq (.block 1 (.seq (.region false [
      ⟨.push, 21, none, .mov (.v 10)⟩,
      ⟨.push, 22, none, .ixAddr 5 (.v 8) (.v 10)⟩,
      ⟨.push, 23, none, .load true 5 (.s 0)⟩,
      ⟨.var 7, 9, none, .alloc (.agg [.int .i64 (0), .str [], .str [], .int .i64 (0), .bool false])⟩,
      ⟨.var 6, 8, none, .mov (.s 2)⟩,
      ⟨.no, 0, none, .store 5 (.v 7) (.s 0)⟩])
   (.test false [
     ⟨.push, 24, none, .mov (.v 1)⟩,
     ⟨.push, 25, none, .mov (.v 6)⟩,
     ⟨.push, 26, none, .call 59 [(.s 1), (.s 0)]⟩,
     ⟨.push, 27, none, .un .not (.s 0)⟩] (.s 0)
   (.region false [
      ⟨.push, 28, none, .mov (.v 5)⟩,
      ⟨.push, 29, none, .load true 5 (.v 7)⟩,
      ⟨.push, 30, none, .mkSl 5 (.agg [.int .i64 (0), .str [], .str [], .int .i64 (0), .bool false]) 1 [(0, (.s 0))]⟩,
      ⟨.push, 31, none, .app 5 56 (.agg [.int .i64 (0), .str [], .str [], .int .i64 (0), .bool false]) (.s 2) (.s 0)⟩,
      ⟨.var 5, 7, none, .mov (.s 0)⟩])
   (.skip))))
 (.region false [
   ⟨.push, 32, none, .bin false .add (.v 10) (.c (.int .i64 (1)))⟩,
   ⟨.var 10, 19, none, .mov (.s 0)⟩])))
def ir20_k0 : List Bool := [false, true, false, false, false, true, false, false, true, true, true, false]
def ir20_o0 : List Bool := [false, false, false, false, false, true, false, false, false, false, false, false]
def ir20_r0 : List Bool := [false, false, true, true, false, false, false, false, false, false, false, false]
def ir20_v : List Nat := [0, 1, 4, 5, 6, 7, 8, 9, 17, 18, 19, 20]
def ir20 : AFn := ⟨2, 12, .seq (.region false [
    ⟨.var 2, 4, none, .newnil 5⟩,
    ⟨.var 3, 5, none, .mov (.c (.int .i64 (0)))⟩])
 (.seq (.seq (.region false [
     ⟨.push, 10, none, .mov (.v 0)⟩,
     ⟨.push, 11, none, .mov (.v 1)⟩,
     ⟨.push, 12, none, .call 58 [(.s 1), (.s 0)]⟩,
     ⟨.var 4, 6, none, .mov (.s 0)⟩])
  (.test false [
    ⟨.push, 13, none, .mov (.v 4)⟩,
    ⟨.push, 14, none, .bin false .neq (.s 0) (.c (.int .i64 (0)))⟩] (.s 0)
  (.seq (.region false [
      ⟨.push, 15, none, .mov (.v 4)⟩,
      ⟨.var 2, 4, none, .newnil 5⟩,
      ⟨.var 3, 5, none, .mov (.s 0)⟩])
   (.ret))
  (.skip)))
 (.seq (.region false [
    ⟨.push, 16, none, .mkSl 5 (.agg [.int .i64 (0), .str [], .str [], .int .i64 (0), .bool false]) 0 []⟩,
    ⟨.var 5, 7, none, .mov (.s 0)⟩])
 (.seq (.seq (.region false [
     ⟨.var 8, 17, none, .mov (.v 0)⟩,
     ⟨.var 9, 18, none, .len false (.v 8)⟩,
     ⟨.var 10, 19, none, .mov (.c (.int .i64 (0)))⟩])
  (.block 0 (.loop ir20_k0 ir20_o0 ir20_r0 ir20_b0)))
 (.seq (.region false [
    ⟨.push, 33, none, .mov (.v 5)⟩,
    ⟨.var 2, 4, none, .mov (.s 0)⟩,
    ⟨.var 3, 5, none, .mov (.c (.int .i64 (0)))⟩])
 (.ret))))), [.t 2, .t 3]⟩
noncomputable def t_impl_CleanEstimates : List (Nat × Ctr) := [(58, c_impl_audited), (59, c_impl_isFaulty)]
theorem lk_impl_CleanEstimates_58 : look t_impl_CleanEstimates 58 = some c_impl_audited := rfl
theorem lk_impl_CleanEstimates_59 : look t_impl_CleanEstimates 59 = some c_impl_isFaulty := rfl
noncomputable def c_impl_CleanEstimates : Ctr := mkF t_impl_CleanEstimates ir20 [.bor, .bor]
theorem s_impl_CleanEstimates : Sound Try.prog 20 c_impl_CleanEstimates := mkF_sound _ rfl (snd_cons s_impl_audited (snd_cons s_impl_isFaulty snd_nil)) (by kernel_rfl : chkFn Try.prog 20 ir20 ir20_v = true)
theorem M_impl_CleanEstimates : c_impl_CleanEstimates.modes = [.bor, .bor] := rfl
theorem Fl_impl_CleanEstimates : c_impl_CleanEstimates.flat = true := rfl
attribute [go_sem] M_impl_CleanEstimates Fl_impl_CleanEstimates
attribute [go_sem] lk_impl_CleanEstimates_58 lk_impl_CleanEstimates_59
def E_impl_CleanEstimates_l1 (faults : List Fault) (t17 : List Estimate) (t18 : Int) : ((List Estimate) × Int) → St
  | (out, t19) => ⟨[.any, .sl 2 (List.map Fault_av faults), .any, .any, .any, .own 3200000, .any, .any, .sl 5 (List.map Estimate_av t17), .int .i64 t18, .int .i64 t19, .any], [], [(3200000, ⟨5, List.map Estimate_av out⟩)], true⟩
def R_impl_CleanEstimates_l1 (faults : List Fault) (t17 : List Estimate) (t18 : Int) (y : (List Estimate)) : Res := (.exit 0, ⟨[.any, .any, .any, .any, .any, .own 3200000, .any, .any, .any, .any, .any, .any], [], [(3200000, ⟨5, List.map Estimate_av y⟩)], true⟩)
theorem impl_CleanEstimates_l1_ex {faults : List Fault} {t17 : List Estimate} {t18 : Int} {sgm_ : (List Estimate) × Int} {rho_ : (List Estimate)} (h : whileE (impl_CleanEstimates_l1 faults t17 t18) sgm_ = some rho_) : ∃ L0, ∀ L, L0 ≤ L → iter (exec (look t_impl_CleanEstimates) L ir20_b0) ir20_k0 ir20_o0 ir20_r0 L (E_impl_CleanEstimates_l1 faults t17 t18 sgm_) = R_impl_CleanEstimates_l1 faults t17 t18 rho_ := by
  refine loop_ex (E := E_impl_CleanEstimates_l1 faults t17 t18) (R := R_impl_CleanEstimates_l1 faults t17 t18) (fun y => by first | (intro c; cases c) | (rcases y with y | y <;> (intro c; cases c)) | (rcases y with y | y | y <;> (intro c; cases c))) ?_ h
  clear h
  rintro ⟨out, t19⟩ o_ h
  dsimp only [impl_CleanEstimates_l1] at h
  rcases it_some h with ⟨hk3, h⟩ | ⟨hk3, h⟩
  · try simp only [go_sem, n1, n2, n3, n4] at hk3
    all_goals
    obtain ⟨hk4, h⟩ := ck_some h
    have lhk4 := ix_lt hk4
    have xhk4 := getD_mapD Estimate_av t17 lhk4
    try simp only [go_sem] at lhk4
    try simp only [go_sem] at xhk4
    try simp only [go_sem, n1, n2, n3, n4, hk3] at hk4
    all_goals
    obtain ⟨y_5, hk5, h⟩ := bd_some h
    have fhk5 := Fs_impl_isFaulty hk5
    try simp only [go_sem] at fhk5
    rcases it_some h with ⟨hk6, h⟩ | ⟨hk6, h⟩
    · try simp only [go_sem, n1, n2, n3, n4, hk3, hk4] at hk6
      all_goals
      obtain ⟨hk7, h⟩ := ck_some h
      try simp only [go_sem, n1, n2, n3, n4, hk3, hk4, hk6] at hk7
      all_goals
      obtain rfl := so_some h
      refine ⟨0, fun L hL => ?_⟩
      simp only [go_sem, ir20, E_impl_CleanEstimates_l1, R_impl_CleanEstimates_l1, ir20_b0, ir20_k0, ir20_o0, ir20_r0, hk3, hk4, lhk4, xhk4, fhk5, hk6, hk7]
    · try simp only [go_sem, n1, n2, n3, n4, hk3, hk4] at hk6
      all_goals
      obtain rfl := so_some h
      refine ⟨0, fun L hL => ?_⟩
      simp only [go_sem, ir20, E_impl_CleanEstimates_l1, R_impl_CleanEstimates_l1, ir20_b0, ir20_k0, ir20_o0, ir20_r0, hk3, hk4, lhk4, xhk4, fhk5, hk6]
  · try simp only [go_sem, n1, n2, n3, n4] at hk3
    all_goals
    obtain rfl := so_some h
    refine ⟨0, fun L hL => ?_⟩
    simp only [go_sem, ir20, E_impl_CleanEstimates_l1, R_impl_CleanEstimates_l1, ir20_b0, ir20_k0, ir20_o0, ir20_r0, hk3]

theorem Fs_impl_CleanEstimates {list : List Estimate} {faults : List Fault} {y_ : (List Estimate) × Int} (h : impl_CleanEstimates list faults = some y_) : c_impl_CleanEstimates.F [.sl 5 (List.map Estimate_av list), .sl 2 (List.map Fault_av faults)] = ⟨true, .tup [.fresh 5 (List.map Estimate_av y_.1), .int .i64 y_.2], [.any, .any]⟩ := by
  refine mkF_E (by simp only [flatA, flatB, flat1, List.all_cons, List.all_nil, Bool.and_self, flatE_map (f := Estimate_av) (fun _ => rfl)]) ?_
  dsimp only [impl_CleanEstimates] at h
  obtain ⟨y_1, hk1, h⟩ := bd_some h
  have fhk1 := Fs_impl_audited hk1
  try simp only [go_sem] at fhk1
  rcases it_some h with ⟨hk2, h⟩ | ⟨hk2, h⟩
  · try simp only [go_sem, n1, n2, n3, n4] at hk2
    all_goals
    obtain rfl := so_some h
    refine ⟨0, fun L hL => ?_⟩
    simp only [go_sem, ir20, E_impl_CleanEstimates_l1, R_impl_CleanEstimates_l1, ir20_k0, ir20_o0, ir20_r0, fhk1, hk2]
  · try simp only [go_sem, n1, n2, n3, n4] at hk2
    all_goals
    obtain ⟨y_8, hk8, h⟩ := bd_some h
    obtain ⟨Lhk8, ehk8⟩ := impl_CleanEstimates_l1_ex hk8
    obtain rfl := so_some h
    refine ⟨Lhk8, fun L hL => ?_⟩
    have ehk8 := ehk8 L (by omega)
    try simp only [go_sem, E_impl_CleanEstimates_l1, R_impl_CleanEstimates_l1, ir20_k0, ir20_o0, ir20_r0] at ehk8
    simp only [go_sem, ir20, E_impl_CleanEstimates_l1, R_impl_CleanEstimates_l1, ir20_k0, ir20_o0, ir20_r0, fhk1, hk2, ehk8]


def ir60_v : List Nat := [0, 1, 2, 3, 4]
def ir60 : AFn := ⟨2, 5, .seq (.region false [
    ⟨.var 2, 2, none, .box (.v 0)⟩,
    ⟨.var 3, 3, none, .box (.v 1)⟩,
    ⟨.var 4, 4, none, .mov (.c (.bool false))⟩])
 (.seq (.test false [
    ⟨.push, 5, none, .fldAddr 0 (.v 2)⟩,
    ⟨.push, 6, none, .load false 1 (.s 0)⟩,
    ⟨.push, 7, none, .fldAddr 0 (.v 3)⟩,
    ⟨.push, 8, none, .load false 1 (.s 0)⟩,
    ⟨.push, 9, none, .bin false .neq (.s 2) (.s 0)⟩] (.s 0)
  (.seq (.region false [
      ⟨.var 4, 4, none, .mov (.c (.bool false))⟩])
   (.ret))
  (.skip))
 (.seq (.test false [
    ⟨.push, 10, none, .fldAddr 1 (.v 2)⟩,
    ⟨.push, 11, none, .load false 1 (.s 0)⟩,
    ⟨.push, 12, none, .fldAddr 1 (.v 3)⟩,
    ⟨.push, 13, none, .load false 1 (.s 0)⟩,
    ⟨.push, 14, none, .bin false .neq (.s 2) (.s 0)⟩] (.s 0)
  (.seq (.region false [
      ⟨.var 4, 4, none, .mov (.c (.bool false))⟩])
   (.ret))
  (.skip))
 (.seq (.test false [
    ⟨.push, 15, none, .fldAddr 2 (.v 2)⟩,
    ⟨.push, 16, none, .load false 1 (.s 0)⟩,
    ⟨.push, 17, none, .fldAddr 2 (.v 3)⟩,
    ⟨.push, 18, none, .load false 1 (.s 0)⟩,
    ⟨.push, 19, none, .bin false .neq (.s 2) (.s 0)⟩] (.s 0)
  (.seq (.region false [
      ⟨.var 4, 4, none, .mov (.c (.bool false))⟩])
   (.ret))
  (.skip))
 (.seq (.test false [
    ⟨.push, 20, none, .fldAddr 3 (.v 2)⟩,
    ⟨.push, 21, none, .load false 1 (.s 0)⟩,
    ⟨.push, 22, none, .fldAddr 3 (.v 3)⟩,
    ⟨.push, 23, none, .load false 1 (.s 0)⟩,
    ⟨.push, 24, none, .bin false .neq (.s 2) (.s 0)⟩] (.s 0)
  (.seq (.region false [
      ⟨.var 4, 4, none, .mov (.c (.bool false))⟩])
   (.ret))
  (.skip))
 (.seq (.test false [
    ⟨.push, 25, none, .fldAddr 4 (.v 2)⟩,
    ⟨.push, 26, none, .load false 1 (.s 0)⟩,
    ⟨.push, 27, none, .fldAddr 4 (.v 3)⟩,
    ⟨.push, 28, none, .load false 1 (.s 0)⟩,
    ⟨.push, 29, none, .bin true .neq (.s 2) (.s 0)⟩] (.s 0)
  (.seq (.region false [
      ⟨.var 4, 4, none, .mov (.c (.bool false))⟩])
   (.ret))
  (.skip))
 (.seq (.region false [
    ⟨.var 4, 4, none, .mov (.c (.bool true))⟩])
 (.ret))))))), [.t 4]⟩
noncomputable def t_laws_eqEstimate : List (Nat × Ctr) := []
noncomputable def c_laws_eqEstimate : Ctr := mkF t_laws_eqEstimate ir60 [.bor, .bor]
theorem s_laws_eqEstimate : Sound Try.prog 60 c_laws_eqEstimate := mkF_sound _ rfl snd_nil (by kernel_rfl : chkFn Try.prog 60 ir60 ir60_v = true)
theorem M_laws_eqEstimate : c_laws_eqEstimate.modes = [.bor, .bor] := rfl
theorem Fl_laws_eqEstimate : c_laws_eqEstimate.flat = true := rfl
attribute [go_sem] M_laws_eqEstimate Fl_laws_eqEstimate
theorem Fs_laws_eqEstimate {a : Estimate} {b : Estimate} {y_ : Bool} (h : laws_eqEstimate a b = some y_) : c_laws_eqEstimate.F [Estimate_av a, Estimate_av b] = ⟨true, .bool y_, [.any, .any]⟩ := by
  refine mkF_E rfl ?_
  dsimp only [laws_eqEstimate] at h
  rcases it_some h with ⟨hk1, h⟩ | ⟨hk1, h⟩
  · try simp only [go_sem, n1, n2, n3, n4] at hk1
    all_goals
    obtain rfl := so_some h
    refine ⟨0, fun L hL => ?_⟩
    simp only [go_sem, ir60, hk1]
  · try simp only [go_sem, n1, n2, n3, n4] at hk1
    all_goals
    rcases it_some h with ⟨hk2, h⟩ | ⟨hk2, h⟩
    · try simp only [go_sem, n1, n2, n3, n4, hk1] at hk2
      all_goals
      obtain rfl := so_some h
      refine ⟨0, fun L hL => ?_⟩
      simp only [go_sem, ir60, hk1, hk2]
    · try simp only [go_sem, n1, n2, n3, n4, hk1] at hk2
      all_goals
      rcases it_some h with ⟨hk3, h⟩ | ⟨hk3, h⟩
      · try simp only [go_sem, n1, n2, n3, n4, hk1, hk2] at hk3
        all_goals
        obtain rfl := so_some h
        refine ⟨0, fun L hL => ?_⟩
        simp only [go_sem, ir60, hk1, hk2, hk3]
      · try simp only [go_sem, n1, n2, n3, n4, hk1, hk2] at hk3
        all_goals
        rcases it_some h with ⟨hk4, h⟩ | ⟨hk4, h⟩
        · try simp only [go_sem, n1, n2, n3, n4, hk1, hk2, hk3] at hk4
          all_goals
          obtain rfl := so_some h
          refine ⟨0, fun L hL => ?_⟩
          simp only [go_sem, ir60, hk1, hk2, hk3, hk4]
        · try simp only [go_sem, n1, n2, n3, n4, hk1, hk2, hk3] at hk4
          all_goals
          rcases it_some h with ⟨hk5, h⟩ | ⟨hk5, h⟩
          · try simp only [go_sem, n1, n2, n3, n4, hk1, hk2, hk3, hk4] at hk5
            all_goals
            obtain rfl := so_some h
            refine ⟨0, fun L hL => ?_⟩
            simp only [go_sem, ir60, hk1, hk2, hk3, hk4, hk5]
          · try simp only [go_sem, n1, n2, n3, n4, hk1, hk2, hk3, hk4] at hk5
            all_goals
            obtain rfl := so_some h
            refine ⟨0, fun L hL => ?_⟩
            simp only [go_sem, ir60, hk1, hk2, hk3, hk4, hk5]


def ir21_b0 : IR := .seq (.test false [
    ⟨.push, 11, none, .mov (.v 3)⟩,
    ⟨.push, 12, none, .mov (.v 0)⟩,
    ⟨.push, 13, none, .len false (.s 0)⟩,
    ⟨.push, 14, none, .bin false .lss (.s 2) (.s 0)⟩] (.s 0)
  (.skip)
  (.exit 0))
 (.seq (.block 1 (.anyo 10 [
     ⟨.slot 0, 17, none, .mov (.v 0)⟩,
     ⟨.slot 1, 18, none, .mov (.v 3)⟩,
     ⟨.slot 2, 19, none, .ixAddr 5 (.s 0) (.s 1)⟩,
     ⟨.slot 3, 20, none, .load true 5 (.s 2)⟩,
     ⟨.slot 4, 21, none, .mov (.v 1)⟩,
     ⟨.slot 5, 22, none, .mov (.v 3)⟩,
     ⟨.slot 6, 23, none, .ixAddr 5 (.s 4) (.s 5)⟩,
     ⟨.slot 7, 24, none, .load true 5 (.s 6)⟩,
     ⟨.slot 8, 25, none, .callp 60 [(.s 3), (.s 7)]⟩,
     ⟨.slot 9, 26, none, .un .not (.s 8)⟩] [] (.cond (.s 9)
   (.seq (.region false [
       ⟨.var 2, 4, none, .mov (.c (.bool false))⟩])
    (.ret))
   (.skip))))
 (.region false [
   ⟨.push, 15, none, .mov (.v 3)⟩,
   ⟨.push, 16, none, .bin false .add (.s 0) (.c (.int .i64 (1)))⟩,
   ⟨.var 3, 5, none, .mov (.s 0)⟩]))
def ir21_k0 : List Bool := [true, true, false, true]
def ir21_o0 : List Bool := [false, false, false, false]
def ir21_r0 : List Bool := [false, false, true, false]
def ir21_v : List Nat := [0, 1, 4, 5]
def ir21 : AFn := ⟨2, 4, .seq (.region false [
    ⟨.var 2, 4, none, .mov (.c (.bool false))⟩])
 (.seq (.test false [
    ⟨.push, 6, none, .mov (.v 0)⟩,
    ⟨.push, 7, none, .len false (.s 0)⟩,
    ⟨.push, 8, none, .mov (.v 1)⟩,
    ⟨.push, 9, none, .len false (.s 0)⟩,
    ⟨.push, 10, none, .bin false .neq (.s 2) (.s 0)⟩] (.s 0)
  (.seq (.region false [
      ⟨.var 2, 4, none, .mov (.c (.bool false))⟩])
   (.ret))
  (.skip))
 (.seq (.seq (.region false [
     ⟨.var 3, 5, none, .mov (.c (.int .i64 (0)))⟩])
  (.block 0 (.loop ir21_k0 ir21_o0 ir21_r0 ir21_b0)))
 (.seq (.region false [
    ⟨.var 2, 4, none, .mov (.c (.bool true))⟩])
 (.ret)))), [.t 2]⟩
noncomputable def t_laws_eqEstimateS : List (Nat × Ctr) := [(60, c_laws_eqEstimate)]
theorem lk_laws_eqEstimateS_60 : look t_laws_eqEstimateS 60 = some c_laws_eqEstimate := rfl
noncomputable def c_laws_eqEstimateS : Ctr := mkF t_laws_eqEstimateS ir21 [.bor, .bor]
theorem s_laws_eqEstimateS : Sound Try.prog 21 c_laws_eqEstimateS := mkF_sound _ rfl (snd_cons s_laws_eqEstimate snd_nil) (by kernel_rfl : chkFn Try.prog 21 ir21 ir21_v = true)
theorem M_laws_eqEstimateS : c_laws_eqEstimateS.modes = [.bor, .bor] := rfl
theorem Fl_laws_eqEstimateS : c_laws_eqEstimateS.flat = true := rfl
attribute [go_sem] M_laws_eqEstimateS Fl_laws_eqEstimateS
attribute [go_sem] lk_laws_eqEstimateS_60
def E_laws_eqEstimateS_l1 (a : List Estimate) (b : List Estimate) : Int → St
  | i => ⟨[.sl 5 (List.map Estimate_av a), .sl 5 (List.map Estimate_av b), .any, .int .i64 i], [], [], true⟩
def R_laws_eqEstimateS_l1 (a : List Estimate) (b : List Estimate) : (Unit ⊕ Bool) → Res
  | .inl y => (.exit 0, ⟨[.any, .any, .any, .any], [], [], true⟩)
  | .inr y => (.ret, ⟨[.any, .any, .bool y, .any], [], [], true⟩)
theorem laws_eqEstimateS_l1_ex {a : List Estimate} {b : List Estimate} {sgm_ : Int} {rho_ : Unit ⊕ Bool} (h : whileE (laws_eqEstimateS_l1 a b) sgm_ = some rho_) : ∃ L0, ∀ L, L0 ≤ L → iter (exec (look t_laws_eqEstimateS) L ir21_b0) ir21_k0 ir21_o0 ir21_r0 L (E_laws_eqEstimateS_l1 a b sgm_) = R_laws_eqEstimateS_l1 a b rho_ := by
  refine loop_ex (E := E_laws_eqEstimateS_l1 a b) (R := R_laws_eqEstimateS_l1 a b) (fun y => by first | (intro c; cases c) | (rcases y with y | y <;> (intro c; cases c)) | (rcases y with y | y | y <;> (intro c; cases c))) ?_ h
  clear h
  intro i o_ h
  dsimp only [laws_eqEstimateS_l1] at h
  rcases it_some h with ⟨hk2, h⟩ | ⟨hk2, h⟩
  · try simp only [go_sem, n1, n2, n3, n4] at hk2
    all_goals
    obtain ⟨hk3, h⟩ := ck_some h
    have lhk3 := ix_lt hk3
    have xhk3 := getD_mapD Estimate_av a lhk3
    try simp only [go_sem] at lhk3
    try simp only [go_sem] at xhk3
    try simp only [go_sem, n1, n2, n3, n4, hk2] at hk3
    all_goals
    obtain ⟨hk4, h⟩ := ck_some h
    have lhk4 := ix_lt hk4
    have xhk4 := getD_mapD Estimate_av b lhk4
    try simp only [go_sem] at lhk4
    try simp only [go_sem] at xhk4
    try simp only [go_sem, n1, n2, n3, n4, hk2, hk3] at hk4
    all_goals
    obtain ⟨y_5, hk5, h⟩ := bd_some h
    have fhk5 := Fs_laws_eqEstimate hk5
    try simp only [go_sem] at fhk5
    rcases it_some h with ⟨hk6, h⟩ | ⟨hk6, h⟩
    · try simp only [go_sem, n1, n2, n3, n4, hk2, hk3, hk4] at hk6
      all_goals
      obtain rfl := so_some h
      refine ⟨0, fun L hL => ?_⟩
      simp only [go_sem, ir21, E_laws_eqEstimateS_l1, R_laws_eqEstimateS_l1, ir21_b0, ir21_k0, ir21_o0, ir21_r0, hk2, hk3, lhk3, xhk3, hk4, lhk4, xhk4, fhk5, hk6]
    · try simp only [go_sem, n1, n2, n3, n4, hk2, hk3, hk4] at hk6
      all_goals
      obtain rfl := so_some h
      refine ⟨0, fun L hL => ?_⟩
      simp only [go_sem, ir21, E_laws_eqEstimateS_l1, R_laws_eqEstimateS_l1, ir21_b0, ir21_k0, ir21_o0, ir21_r0, hk2, hk3, lhk3, xhk3, hk4, lhk4, xhk4, fhk5, hk6]
  · try simp only [go_sem, n1, n2, n3, n4] at hk2
    all_goals
    obtain rfl := so_some h
    refine ⟨0, fun L hL => ?_⟩
    simp only [go_sem, ir21, E_laws_eqEstimateS_l1, R_laws_eqEstimateS_l1, ir21_b0, ir21_k0, ir21_o0, ir21_r0, hk2]

theorem Fs_laws_eqEstimateS {a : List Estimate} {b : List Estimate} {y_ : Bool} (h : laws_eqEstimateS a b = some y_) : c_laws_eqEstimateS.F [.sl 5 (List.map Estimate_av a), .sl 5 (List.map Estimate_av b)] = ⟨true, .bool y_, [.any, .any]⟩ := by
  refine mkF_E rfl ?_
  dsimp only [laws_eqEstimateS] at h
  rcases it_some h with ⟨hk1, h⟩ | ⟨hk1, h⟩
  · try simp only [go_sem, n1, n2, n3, n4] at hk1
    all_goals
    obtain rfl := so_some h
    refine ⟨0, fun L hL => ?_⟩
    simp only [go_sem, ir21, E_laws_eqEstimateS_l1, R_laws_eqEstimateS_l1, ir21_k0, ir21_o0, ir21_r0, hk1]
  · try simp only [go_sem, n1, n2, n3, n4] at hk1
    all_goals
    obtain ⟨y_7, hk7, h⟩ := bd_some h
    obtain ⟨Lhk7, ehk7⟩ := laws_eqEstimateS_l1_ex hk7
    rcases y_7 with y_7a | y_7b
    · dsimp only at h
      obtain rfl := so_some h
      refine ⟨Lhk7, fun L hL => ?_⟩
      have ehk7 := ehk7 L (by omega)
      try simp only [go_sem, E_laws_eqEstimateS_l1, R_laws_eqEstimateS_l1, ir21_k0, ir21_o0, ir21_r0] at ehk7
      simp only [go_sem, ir21, E_laws_eqEstimateS_l1, R_laws_eqEstimateS_l1, ir21_k0, ir21_o0, ir21_r0, hk1, ehk7]
    · dsimp only at h
      obtain rfl := so_some h
      refine ⟨Lhk7, fun L hL => ?_⟩
      have ehk7 := ehk7 L (by omega)
      try simp only [go_sem, E_laws_eqEstimateS_l1, R_laws_eqEstimateS_l1, ir21_k0, ir21_o0, ir21_r0] at ehk7
      simp only [go_sem, ir21, E_laws_eqEstimateS_l1, R_laws_eqEstimateS_l1, ir21_k0, ir21_o0, ir21_r0, hk1, ehk7]


def ir61_v : List Nat := [0, 1, 2, 3, 4]
def ir61 : AFn := ⟨2, 5, .seq (.region false [
    ⟨.var 2, 2, none, .box (.v 0)⟩,
    ⟨.var 3, 3, none, .box (.v 1)⟩,
    ⟨.var 4, 4, none, .mov (.c (.bool false))⟩])
 (.seq (.test false [
    ⟨.push, 5, none, .fldAddr 0 (.v 2)⟩,
    ⟨.push, 6, none, .load false 1 (.s 0)⟩,
    ⟨.push, 7, none, .fldAddr 0 (.v 3)⟩,
    ⟨.push, 8, none, .load false 1 (.s 0)⟩,
    ⟨.push, 9, none, .bin false .neq (.s 2) (.s 0)⟩] (.s 0)
  (.seq (.region false [
      ⟨.var 4, 4, none, .mov (.c (.bool false))⟩])
   (.ret))
  (.skip))
 (.seq (.test false [
    ⟨.push, 10, none, .fldAddr 1 (.v 2)⟩,
    ⟨.push, 11, none, .load false 1 (.s 0)⟩,
    ⟨.push, 12, none, .fldAddr 1 (.v 3)⟩,
    ⟨.push, 13, none, .load false 1 (.s 0)⟩,
    ⟨.push, 14, none, .bin false .neq (.s 2) (.s 0)⟩] (.s 0)
  (.seq (.region false [
      ⟨.var 4, 4, none, .mov (.c (.bool false))⟩])
   (.ret))
  (.skip))
 (.seq (.region false [
    ⟨.var 4, 4, none, .mov (.c (.bool true))⟩])
 (.ret)))), [.t 4]⟩
noncomputable def t_laws_eqFault : List (Nat × Ctr) := []
noncomputable def c_laws_eqFault : Ctr := mkF t_laws_eqFault ir61 [.bor, .bor]
theorem s_laws_eqFault : Sound Try.prog 61 c_laws_eqFault := mkF_sound _ rfl snd_nil (by kernel_rfl : chkFn Try.prog 61 ir61 ir61_v = true)
theorem M_laws_eqFault : c_laws_eqFault.modes = [.bor, .bor] := rfl
theorem Fl_laws_eqFault : c_laws_eqFault.flat = true := rfl
attribute [go_sem] M_laws_eqFault Fl_laws_eqFault
theorem Fs_laws_eqFault {a : Fault} {b : Fault} {y_ : Bool} (h : laws_eqFault a b = some y_) : c_laws_eqFault.F [Fault_av a, Fault_av b] = ⟨true, .bool y_, [.any, .any]⟩ := by
  refine mkF_E rfl ?_
  dsimp only [laws_eqFault] at h
  rcases it_some h with ⟨hk1, h⟩ | ⟨hk1, h⟩
  · try simp only [go_sem, n1, n2, n3, n4] at hk1
    all_goals
    obtain rfl := so_some h
    refine ⟨0, fun L hL => ?_⟩
    simp only [go_sem, ir61, hk1]
  · try simp only [go_sem, n1, n2, n3, n4] at hk1
    all_goals
    rcases it_some h with ⟨hk2, h⟩ | ⟨hk2, h⟩
    · try simp only [go_sem, n1, n2, n3, n4, hk1] at hk2
      all_goals
      obtain rfl := so_some h
      refine ⟨0, fun L hL => ?_⟩
      simp only [go_sem, ir61, hk1, hk2]
    · try simp only [go_sem, n1, n2, n3, n4, hk1] at hk2
      all_goals
      obtain rfl := so_some h
      refine ⟨0, fun L hL => ?_⟩
      simp only [go_sem, ir61, hk1, hk2]


def ir22_b0 : IR := .seq (.test false [
    ⟨.push, 11, none, .mov (.v 3)⟩,
    ⟨.push, 12, none, .mov (.v 0)⟩,
    ⟨.push, 13, none, .len false (.s 0)⟩,
    ⟨.push, 14, none, .bin false .lss (.s 2) (.s 0)⟩] (.s 0)
  (.skip)
  (.exit 0))
 (.seq (.block 1 (.anyo 10 [
     ⟨.slot 0, 17, none, .mov (.v 0)⟩,
     ⟨.slot 1, 18, none, .mov (.v 3)⟩,
     ⟨.slot 2, 19, none, .ixAddr 2 (.s 0) (.s 1)⟩,
     ⟨.slot 3, 20, none, .load true 2 (.s 2)⟩,
     ⟨.slot 4, 21, none, .mov (.v 1)⟩,
     ⟨.slot 5, 22, none, .mov (.v 3)⟩,
     ⟨.slot 6, 23, none, .ixAddr 2 (.s 4) (.s 5)⟩,
     ⟨.slot 7, 24, none, .load true 2 (.s 6)⟩,
     ⟨.slot 8, 25, none, .callp 61 [(.s 3), (.s 7)]⟩,
     ⟨.slot 9, 26, none, .un .not (.s 8)⟩] [] (.cond (.s 9)
   (.seq (.region false [
       ⟨.var 2, 4, none, .mov (.c (.bool false))⟩])
    (.ret))
   (.skip))))
 (.region false [
   ⟨.push, 15, none, .mov (.v 3)⟩,
   ⟨.push, 16, none, .bin false .add (.s 0) (.c (.int .i64 (1)))⟩,
   ⟨.var 3, 5, none, .mov (.s 0)⟩]))
def ir22_k0 : List Bool := [true, true, false, true]
def ir22_o0 : List Bool := [false, false, false, false]
def ir22_r0 : List Bool := [false, false, true, false]
def ir22_v : List Nat := [0, 1, 4, 5]
def ir22 : AFn := ⟨2, 4, .seq (.region false [
    ⟨.var 2, 4, none, .mov (.c (.bool false))⟩])
 (.seq (.test false [
    ⟨.push, 6, none, .mov (.v 0)⟩,
    ⟨.push, 7, none, .len false (.s 0)⟩,
    ⟨.push, 8, none, .mov (.v 1)⟩,
    ⟨.push, 9, none, .len false (.s 0)⟩,
    ⟨.push, 10, none, .bin false .neq (.s 2) (.s 0)⟩] (.s 0)
  (.seq (.region false [
      ⟨.var 2, 4, none, .mov (.c (.bool false))⟩])
   (.ret))
  (.skip))
 (.seq (.seq (.region false [
     ⟨.var 3, 5, none, .mov (.c (.int .i64 (0)))⟩])
  (.block 0 (.loop ir22_k0 ir22_o0 ir22_r0 ir22_b0)))
 (.seq (.region false [
    ⟨.var 2, 4, none, .mov (.c (.bool true))⟩])
 (.ret)))), [.t 2]⟩
noncomputable def t_laws_eqFaultS : List (Nat × Ctr) := [(61, c_laws_eqFault)]
theorem lk_laws_eqFaultS_61 : look t_laws_eqFaultS 61 = some c_laws_eqFault := rfl
noncomputable def c_laws_eqFaultS : Ctr := mkF t_laws_eqFaultS ir22 [.bor, .bor]
theorem s_laws_eqFaultS : Sound Try.prog 22 c_laws_eqFaultS := mkF_sound _ rfl (snd_cons s_laws_eqFault snd_nil) (by kernel_rfl : chkFn Try.prog 22 ir22 ir22_v = true)
theorem M_laws_eqFaultS : c_laws_eqFaultS.modes = [.bor, .bor] := rfl
theorem Fl_laws_eqFaultS : c_laws_eqFaultS.flat = true := rfl
attribute [go_sem] M_laws_eqFaultS Fl_laws_eqFaultS
attribute [go_sem] lk_laws_eqFaultS_61
def E_laws_eqFaultS_l1 (a : List Fault) (b : List Fault) : Int → St
  | i => ⟨[.sl 2 (List.map Fault_av a), .sl 2 (List.map Fault_av b), .any, .int .i64 i], [], [], true⟩
def R_laws_eqFaultS_l1 (a : List Fault) (b : List Fault) : (Unit ⊕ Bool) → Res
  | .inl y => (.exit 0, ⟨[.any, .any, .any, .any], [], [], true⟩)
  | .inr y => (.ret, ⟨[.any, .any, .bool y, .any], [], [], true⟩)
theorem laws_eqFaultS_l1_ex {a : List Fault} {b : List Fault} {sgm_ : Int} {rho_ : Unit ⊕ Bool} (h : whileE (laws_eqFaultS_l1 a b) sgm_ = some rho_) : ∃ L0, ∀ L, L0 ≤ L → iter (exec (look t_laws_eqFaultS) L ir22_b0) ir22_k0 ir22_o0 ir22_r0 L (E_laws_eqFaultS_l1 a b sgm_) = R_laws_eqFaultS_l1 a b rho_ := by
  refine loop_ex (E := E_laws_eqFaultS_l1 a b) (R := R_laws_eqFaultS_l1 a b) (fun y => by first | (intro c; cases c) | (rcases y with y | y <;> (intro c; cases c)) | (rcases y with y | y | y <;> (intro c; cases c))) ?_ h
  clear h
  intro i o_ h
  dsimp only [laws_eqFaultS_l1] at h
  rcases it_some h with ⟨hk2, h⟩ | ⟨hk2, h⟩
  · try simp only [go_sem, n1, n2, n3, n4] at hk2
    all_goals
    obtain ⟨hk3, h⟩ := ck_some h
    have lhk3 := ix_lt hk3
    have xhk3 := getD_mapD Fault_av a lhk3
    try simp only [go_sem] at lhk3
    try simp only [go_sem] at xhk3
    try simp only [go_sem, n1, n2, n3, n4, hk2] at hk3
    all_goals
    obtain ⟨hk4, h⟩ := ck_some h
    have lhk4 := ix_lt hk4
    have xhk4 := getD_mapD Fault_av b lhk4
    try simp only [go_sem] at lhk4
    try simp only [go_sem] at xhk4
    try simp only [go_sem, n1, n2, n3, n4, hk2, hk3] at hk4
    all_goals
    obtain ⟨y_5, hk5, h⟩ := bd_some h
    have fhk5 := Fs_laws_eqFault hk5
    try simp only [go_sem] at fhk5
    rcases it_some h with ⟨hk6, h⟩ | ⟨hk6, h⟩
    · try simp only [go_sem, n1, n2, n3, n4, hk2, hk3, hk4] at hk6
      all_goals
      obtain rfl := so_some h
      refine ⟨0, fun L hL => ?_⟩
      simp only [go_sem, ir22, E_laws_eqFaultS_l1, R_laws_eqFaultS_l1, ir22_b0, ir22_k0, ir22_o0, ir22_r0, hk2, hk3, lhk3, xhk3, hk4, lhk4, xhk4, fhk5, hk6]
    · try simp only [go_sem, n1, n2, n3, n4, hk2, hk3, hk4] at hk6
      all_goals
      obtain rfl := so_some h
      refine ⟨0, fun L hL => ?_⟩
      simp only [go_sem, ir22, E_laws_eqFaultS_l1, R_laws_eqFaultS_l1, ir22_b0, ir22_k0, ir22_o0, ir22_r0, hk2, hk3, lhk3, xhk3, hk4, lhk4, xhk4, fhk5, hk6]
  · try simp only [go_sem, n1, n2, n3, n4] at hk2
    all_goals
    obtain rfl := so_some h
    refine ⟨0, fun L hL => ?_⟩
    simp only [go_sem, ir22, E_laws_eqFaultS_l1, R_laws_eqFaultS_l1, ir22_b0, ir22_k0, ir22_o0, ir22_r0, hk2]

theorem Fs_laws_eqFaultS {a : List Fault} {b : List Fault} {y_ : Bool} (h : laws_eqFaultS a b = some y_) : c_laws_eqFaultS.F [.sl 2 (List.map Fault_av a), .sl 2 (List.map Fault_av b)] = ⟨true, .bool y_, [.any, .any]⟩ := by
  refine mkF_E rfl ?_
  dsimp only [laws_eqFaultS] at h
  rcases it_some h with ⟨hk1, h⟩ | ⟨hk1, h⟩
  · try simp only [go_sem, n1, n2, n3, n4] at hk1
    all_goals
    obtain rfl := so_some h
    refine ⟨0, fun L hL => ?_⟩
    simp only [go_sem, ir22, E_laws_eqFaultS_l1, R_laws_eqFaultS_l1, ir22_k0, ir22_o0, ir22_r0, hk1]
  · try simp only [go_sem, n1, n2, n3, n4] at hk1
    all_goals
    obtain ⟨y_7, hk7, h⟩ := bd_some h
    obtain ⟨Lhk7, ehk7⟩ := laws_eqFaultS_l1_ex hk7
    rcases y_7 with y_7a | y_7b
    · dsimp only at h
      obtain rfl := so_some h
      refine ⟨Lhk7, fun L hL => ?_⟩
      have ehk7 := ehk7 L (by omega)
      try simp only [go_sem, E_laws_eqFaultS_l1, R_laws_eqFaultS_l1, ir22_k0, ir22_o0, ir22_r0] at ehk7
      simp only [go_sem, ir22, E_laws_eqFaultS_l1, R_laws_eqFaultS_l1, ir22_k0, ir22_o0, ir22_r0, hk1, ehk7]
    · dsimp only at h
      obtain rfl := so_some h
      refine ⟨Lhk7, fun L hL => ?_⟩
      have ehk7 := ehk7 L (by omega)
      try simp only [go_sem, E_laws_eqFaultS_l1, R_laws_eqFaultS_l1, ir22_k0, ir22_o0, ir22_r0] at ehk7
      simp only [go_sem, ir22, E_laws_eqFaultS_l1, R_laws_eqFaultS_l1, ir22_k0, ir22_o0, ir22_r0, hk1, ehk7]


def ir62_b0 : IR := .seq (.test false [
    ⟨.push, 6, none, .mov (.v 0)⟩,
    ⟨.push, 7, none, .bin false .gtr (.s 0) (.c (.int .i64 (0)))⟩] (.s 0)
  (.skip)
  (.exit 0))
 (.block 1 (.seq (.region false [
     ⟨.push, 8, none, .mov (.v 0)⟩,
     ⟨.push, 9, none, .bin false .rem (.s 0) (.c (.int .i64 (10)))⟩,
     ⟨.push, 10, none, .bin false .add (.c (.int .i64 (48))) (.s 0)⟩,
     ⟨.push, 11, none, .conv .u8 (.s 0)⟩,
     ⟨.push, 12, none, .mkSl 1 (.int .u8 (0)) 1 [(0, (.s 0))]⟩,
     ⟨.push, 13, none, .b2s (.s 0)⟩,
     ⟨.push, 14, none, .mov (.v 2)⟩,
     ⟨.push, 15, none, .bin false .add (.s 1) (.s 0)⟩,
     ⟨.var 2, 3, none, .mov (.s 0)⟩])
  (.region false [
    ⟨.push, 16, none, .mov (.v 0)⟩,
    ⟨.push, 17, none, .bin false .quo (.s 0) (.c (.int .i64 (10)))⟩,
    ⟨.var 0, 0, none, .mov (.s 0)⟩])))
def ir62_k0 : List Bool := [true, false, true]
def ir62_o0 : List Bool := [false, false, true]
def ir62_r0 : List Bool := [false, true, false]
def ir62_v : List Nat := [0, 2, 3]
def ir62 : AFn := ⟨1, 3, .seq (.region false [
    ⟨.var 1, 2, none, .mov (.c (.str []))⟩])
 (.seq (.test false [
    ⟨.push, 4, none, .mov (.v 0)⟩,
    ⟨.push, 5, none, .bin false .leq (.s 0) (.c (.int .i64 (0)))⟩] (.s 0)
  (.seq (.region false [
      ⟨.var 1, 2, none, .mov (.c (.str [109, 48]))⟩])
   (.ret))
  (.skip))
 (.seq (.region false [
    ⟨.var 2, 3, none, .mov (.c (.str []))⟩])
 (.seq (.block 0 (.loop ir62_k0 ir62_o0 ir62_r0 ir62_b0))
 (.seq (.region false [
    ⟨.push, 18, none, .mov (.v 2)⟩,
    ⟨.push, 19, none, .bin false .add (.c (.str [109])) (.s 0)⟩,
    ⟨.var 1, 2, none, .mov (.s 0)⟩])
 (.ret))))), [.t 1]⟩
noncomputable def t_laws_markText : List (Nat × Ctr) := []
noncomputable def c_laws_markText : Ctr := mkF t_laws_markText ir62 [.bor]
theorem s_laws_markText : Sound Try.prog 62 c_laws_markText := mkF_sound _ rfl snd_nil (by kernel_rfl : chkFn Try.prog 62 ir62 ir62_v = true)
theorem M_laws_markText : c_laws_markText.modes = [.bor] := rfl
theorem Fl_laws_markText : c_laws_markText.flat = true := rfl
attribute [go_sem] M_laws_markText Fl_laws_markText
def E_laws_markText_l1  : (Int × (List UInt8)) → St
  | (k, out) => ⟨[.int .i64 k, .any, .str out], [], [], true⟩
def R_laws_markText_l1  (y : (List UInt8)) : Res := (.exit 0, ⟨[.any, .any, .str y], [], [], true⟩)
theorem laws_markText_l1_ex  {sgm_ : Int × (List UInt8)} {rho_ : (List UInt8)} (h : whileE (laws_markText_l1) sgm_ = some rho_) : ∃ L0, ∀ L, L0 ≤ L → iter (exec (look t_laws_markText) L ir62_b0) ir62_k0 ir62_o0 ir62_r0 L (E_laws_markText_l1 sgm_) = R_laws_markText_l1 rho_ := by
  refine loop_ex (E := E_laws_markText_l1) (R := R_laws_markText_l1) (fun y => by first | (intro c; cases c) | (rcases y with y | y <;> (intro c; cases c)) | (rcases y with y | y | y <;> (intro c; cases c))) ?_ h
  clear h
  rintro ⟨k, out⟩ o_ h
  dsimp only [laws_markText_l1] at h
  rcases it_some h with ⟨hk2, h⟩ | ⟨hk2, h⟩
  · try simp only [go_sem, n1, n2, n3, n4] at hk2
    all_goals
    obtain ⟨hk3, h⟩ := ck_some h
    try simp only [go_sem, n1, n2, n3, n4, hk2] at hk3
    all_goals
    obtain ⟨hk4, h⟩ := ck_some h
    try simp only [go_sem, n1, n2, n3, n4, hk2, hk3] at hk4
    all_goals
    obtain rfl := so_some h
    refine ⟨0, fun L hL => ?_⟩
    simp only [go_sem, ir62, E_laws_markText_l1, R_laws_markText_l1, ir62_b0, ir62_k0, ir62_o0, ir62_r0, hk2, hk3, hk4]
  · try simp only [go_sem, n1, n2, n3, n4] at hk2
    all_goals
    obtain rfl := so_some h
    refine ⟨0, fun L hL => ?_⟩
    simp only [go_sem, ir62, E_laws_markText_l1, R_laws_markText_l1, ir62_b0, ir62_k0, ir62_o0, ir62_r0, hk2]

theorem Fs_laws_markText {k : Int} {y_ : (List UInt8)} (h : laws_markText k = some y_) : c_laws_markText.F [.int .i64 k] = ⟨true, .str y_, [.any]⟩ := by
  refine mkF_E rfl ?_
  dsimp only [laws_markText] at h
  rcases it_some h with ⟨hk1, h⟩ | ⟨hk1, h⟩
  · try simp only [go_sem, n1, n2, n3, n4] at hk1
    all_goals
    obtain rfl := so_some h
    refine ⟨0, fun L hL => ?_⟩
    simp only [go_sem, ir62, E_laws_markText_l1, R_laws_markText_l1, ir62_k0, ir62_o0, ir62_r0, hk1]
  · try simp only [go_sem, n1, n2, n3, n4] at hk1
    all_goals
    obtain ⟨y_5, hk5, h⟩ := bd_some h
    obtain ⟨Lhk5, ehk5⟩ := laws_markText_l1_ex hk5
    obtain ⟨hk6, h⟩ := ck_some h
    try simp only [go_sem, n1, n2, n3, n4, hk1] at hk6
    all_goals
    obtain rfl := so_some h
    refine ⟨Lhk5, fun L hL => ?_⟩
    have ehk5 := ehk5 L (by omega)
    try simp only [go_sem, E_laws_markText_l1, R_laws_markText_l1, ir62_k0, ir62_o0, ir62_r0] at ehk5
    simp only [go_sem, ir62, E_laws_markText_l1, R_laws_markText_l1, ir62_k0, ir62_o0, ir62_r0, hk1, hk6, ehk5]


def ir23_b0 : IR := .seq (.test false [
    ⟨.push, 6, none, .mov (.v 3)⟩,
    ⟨.push, 7, none, .mov (.v 0)⟩,
    ⟨.push, 8, none, .len false (.s 0)⟩,
    ⟨.push, 9, none, .bin false .lss (.s 2) (.s 0)⟩] (.s 0)
  (.skip)
  (.exit 0))
 (.seq (.block 1 (.seq (.region false [
      ⟨.push, 12, none, .mov (.v 0)⟩,
      ⟨.push, 13, none, .mov (.v 3)⟩,
      ⟨.push, 14, none, .mov (.v 1)⟩,
      ⟨.push, 15, none, .ixAddr 5 (.s 2) (.s 1)⟩,
      ⟨.push, 16, none, .fldAddr 0 (.s 0)⟩,
      ⟨.no, 0, none, .store 1 (.s 0) (.s 2)⟩])
   (.seq (.region false [
      ⟨.push, 17, none, .mov (.v 1)⟩,
      ⟨.push, 18, none, .bin false .add (.s 0) (.c (.int .i64 (1)))⟩,
      ⟨.var 1, 1, none, .mov (.s 0)⟩])
   (.seq (.region false [
      ⟨.push, 19, none, .mov (.v 0)⟩,
      ⟨.push, 20, none, .mov (.v 3)⟩,
      ⟨.push, 21, none, .mov (.v 1)⟩,
      ⟨.push, 22, none, .call 62 [(.s 0)]⟩,
      ⟨.push, 23, none, .ixAddr 5 (.s 3) (.s 2)⟩,
      ⟨.push, 24, none, .fldAddr 1 (.s 0)⟩,
      ⟨.no, 0, none, .store 1 (.s 0) (.s 2)⟩])
   (.seq (.region false [
      ⟨.push, 25, none, .mov (.v 1)⟩,
      ⟨.push, 26, none, .bin false .add (.s 0) (.c (.int .i64 (1)))⟩,
      ⟨.var 1, 1, none, .mov (.s 0)⟩])
   (.seq (.region false [
      ⟨.push, 27, none, .mov (.v 0)⟩,
      ⟨.push, 28, none, .mov (.v 3)⟩,
      ⟨.push, 29, none, .mov (.v 1)⟩,
      ⟨.push, 30, none, .call 62 [(.s 0)]⟩,
      ⟨.push, 31, none, .ixAddr 5 (.s 3) (.s 2)⟩,
      ⟨.push, 32, none, .fldAddr 2 (.s 0)⟩,
      ⟨.no, 0, none, .store 1 (.s 0) (.s 2)⟩])
   (.seq (.region false [
      ⟨.push, 33, none, .mov (.v 1)⟩,
      ⟨.push, 34, none, .bin false .add (.s 0) (.c (.int .i64 (1)))⟩,
      ⟨.var 1, 1, none, .mov (.s 0)⟩])
   (.seq (.region false [
      ⟨.push, 35, none, .mov (.v 0)⟩,
      ⟨.push, 36, none, .mov (.v 3)⟩,
      ⟨.push, 37, none, .mov (.v 1)⟩,
      ⟨.push, 38, none, .ixAddr 5 (.s 2) (.s 1)⟩,
      ⟨.push, 39, none, .fldAddr 3 (.s 0)⟩,
      ⟨.no, 0, none, .store 1 (.s 0) (.s 2)⟩])
   (.seq (.region false [
      ⟨.push, 40, none, .mov (.v 1)⟩,
      ⟨.push, 41, none, .bin false .add (.s 0) (.c (.int .i64 (1)))⟩,
      ⟨.var 1, 1, none, .mov (.s 0)⟩])
   (.seq (.region false [
      ⟨.push, 42, none, .mov (.v 0)⟩,
      ⟨.push, 43, none, .mov (.v 3)⟩,
      ⟨.push, 44, none, .mov (.v 1)⟩,
      ⟨.push, 45, none, .bin false .rem (.s 0) (.c (.int .i64 (3)))⟩,
      ⟨.push, 46, none, .bin false .eql (.s 0) (.c (.int .i64 (0)))⟩,
      ⟨.push, 47, none, .ixAddr 5 (.s 4) (.s 3)⟩,
      ⟨.push, 48, none, .fldAddr 4 (.s 0)⟩,
      ⟨.no, 0, none, .store 1 (.s 0) (.s 2)⟩])
   (.region false [
     ⟨.push, 49, none, .mov (.v 1)⟩,
     ⟨.push, 50, none, .bin false .add (.s 0) (.c (.int .i64 (1)))⟩,
     ⟨.var 1, 1, none, .mov (.s 0)⟩])))))))))))
 (.region false [
   ⟨.push, 10, none, .mov (.v 3)⟩,
   ⟨.push, 11, none, .bin false .add (.s 0) (.c (.int .i64 (1)))⟩,
   ⟨.var 3, 5, none, .mov (.s 0)⟩]))
def ir23_k0 : List Bool := [true, true, false, true]
def ir23_o0 : List Bool := [true, true, false, false]
def ir23_r0 : List Bool := [true, false, true, false]
def ir23_v : List Nat := [0, 1, 4, 5]
def ir23 : AFn := ⟨2, 4, .seq (.region false [
    ⟨.var 2, 4, none, .mov (.c (.int .i64 (0)))⟩])
 (.seq (.seq (.region false [
     ⟨.var 3, 5, none, .mov (.c (.int .i64 (0)))⟩])
  (.block 0 (.loop ir23_k0 ir23_o0 ir23_r0 ir23_b0)))
 (.seq (.region false [
    ⟨.push, 51, none, .mov (.v 1)⟩,
    ⟨.var 2, 4, none, .mov (.s 0)⟩])
 (.ret))), [.t 2]⟩
noncomputable def t_laws_markEstimateS : List (Nat × Ctr) := [(62, c_laws_markText)]
theorem lk_laws_markEstimateS_62 : look t_laws_markEstimateS 62 = some c_laws_markText := rfl
noncomputable def c_laws_markEstimateS : Ctr := mkN t_laws_markEstimateS ir23 [.io, .bor]
theorem s_laws_markEstimateS : Sound Try.prog 23 c_laws_markEstimateS := mkN_sound _ (snd_cons s_laws_markText snd_nil) (by kernel_rfl : chkFn Try.prog 23 ir23 ir23_v = true)
theorem M_laws_markEstimateS : c_laws_markEstimateS.modes = [.io, .bor] := rfl
theorem Fl_laws_markEstimateS : c_laws_markEstimateS.flat = false := rfl
attribute [go_sem] M_laws_markEstimateS Fl_laws_markEstimateS
attribute [go_sem] lk_laws_markEstimateS_62
def E_laws_markEstimateS_l1  : ((List Estimate) × Int × Int) → St
  | (a, k, i) => ⟨[.own 31, .int .i64 k, .any, .int .i64 i], [], [(31, ⟨5, List.map Estimate_av a⟩)], true⟩
def R_laws_markEstimateS_l1  (y : (List Estimate) × Int) : Res := (.exit 0, ⟨[.own 31, .int .i64 y.2, .any, .any], [], [(31, ⟨5, List.map Estimate_av y.1⟩)], true⟩)
theorem laws_markEstimateS_l1_ex  {sgm_ : (List Estimate) × Int × Int} {rho_ : (List Estimate) × Int} (h : whileE (laws_markEstimateS_l1) sgm_ = some rho_) : ∃ L0, ∀ L, L0 ≤ L → iter (exec (look t_laws_markEstimateS) L ir23_b0) ir23_k0 ir23_o0 ir23_r0 L (E_laws_markEstimateS_l1 sgm_) = R_laws_markEstimateS_l1 rho_ := by
  refine loop_ex (E := E_laws_markEstimateS_l1) (R := R_laws_markEstimateS_l1) (fun y => by first | (intro c; cases c) | (rcases y with y | y <;> (intro c; cases c)) | (rcases y with y | y | y <;> (intro c; cases c))) ?_ h
  clear h
  rintro ⟨a, k, i⟩ o_ h
  dsimp only [laws_markEstimateS_l1] at h
  rcases it_some h with ⟨hk1, h⟩ | ⟨hk1, h⟩
  · try simp only [go_sem, n1, n2, n3, n4] at hk1
    all_goals
    obtain ⟨hk2, h⟩ := ck_some h
    have lhk2 := ix_lt hk2
    have xhk2 := getD_mapD Estimate_av a lhk2
    try simp only [go_sem] at lhk2
    try simp only [go_sem] at xhk2
    try simp only [go_sem, n1, n2, n3, n4, hk1] at hk2
    all_goals
    obtain ⟨y_3, hk3, h⟩ := bd_some h
    have fhk3 := Fs_laws_markText hk3
    try simp only [go_sem] at fhk3
    obtain ⟨y_4, hk4, h⟩ := bd_some h
    have fhk4 := Fs_laws_markText hk4
    try simp only [go_sem] at fhk4
    obtain ⟨hk5, h⟩ := ck_some h
    try simp only [go_sem, n1, n2, n3, n4, hk1, hk2] at hk5
    all_goals
    obtain rfl := so_some h
    refine ⟨0, fun L hL => ?_⟩
    simp only [go_sem, ir23, E_laws_markEstimateS_l1, R_laws_markEstimateS_l1, ir23_b0, ir23_k0, ir23_o0, ir23_r0, hk1, hk2, lhk2, xhk2, fhk3, fhk4, hk5]
  · try simp only [go_sem, n1, n2, n3, n4] at hk1
    all_goals
    obtain rfl := so_some h
    refine ⟨0, fun L hL => ?_⟩
    simp only [go_sem, ir23, E_laws_markEstimateS_l1, R_laws_markEstimateS_l1, ir23_b0, ir23_k0, ir23_o0, ir23_r0, hk1]

theorem Fs_laws_markEstimateS {a : List Estimate} {k : Int} {y_ : Int × (List Estimate)} (h : laws_markEstimateS a k = some y_) : c_laws_markEstimateS.F [.fresh 5 (List.map Estimate_av a), .int .i64 k] = ⟨true, .int .i64 y_.1, [.fresh 5 (List.map Estimate_av y_.2), .any]⟩ := by
  refine mkN_E ?_
  dsimp only [laws_markEstimateS] at h
  obtain ⟨y_6, hk6, h⟩ := bd_some h
  obtain ⟨Lhk6, ehk6⟩ := laws_markEstimateS_l1_ex hk6
  obtain ⟨hk7, h⟩ := ck_some h
  try simp only [go_sem, n1, n2, n3, n4] at hk7
  all_goals
  obtain rfl := so_some h
  refine ⟨Lhk6, fun L hL => ?_⟩
  have ehk6 := ehk6 L (by omega)
  try simp only [go_sem, E_laws_markEstimateS_l1, R_laws_markEstimateS_l1, ir23_k0, ir23_o0, ir23_r0] at ehk6
  simp only [go_sem, ir23, E_laws_markEstimateS_l1, R_laws_markEstimateS_l1, ir23_k0, ir23_o0, ir23_r0, hk7, ehk6]


def ir24_b0 : IR := .seq (.test false [
    ⟨.push, 6, none, .mov (.v 3)⟩,
    ⟨.push, 7, none, .mov (.v 0)⟩,
    ⟨.push, 8, none, .len false (.s 0)⟩,
    ⟨.push, 9, none, .bin false .lss (.s 2) (.s 0)⟩] (.s 0)
  (.skip)
  (.exit 0))
 (.seq (.block 1 (.seq (.region false [
      ⟨.push, 12, none, .mov (.v 0)⟩,
      ⟨.push, 13, none, .mov (.v 3)⟩,
      ⟨.push, 14, none, .mov (.v 1)⟩,
      ⟨.push, 15, none, .ixAddr 2 (.s 2) (.s 1)⟩,
      ⟨.push, 16, none, .fldAddr 0 (.s 0)⟩,
      ⟨.no, 0, none, .store 1 (.s 0) (.s 2)⟩])
   (.seq (.region false [
      ⟨.push, 17, none, .mov (.v 1)⟩,
      ⟨.push, 18, none, .bin false .add (.s 0) (.c (.int .i64 (1)))⟩,
      ⟨.var 1, 1, none, .mov (.s 0)⟩])
   (.seq (.region false [
      ⟨.push, 19, none, .mov (.v 0)⟩,
      ⟨.push, 20, none, .mov (.v 3)⟩,
      ⟨.push, 21, none, .mov (.v 1)⟩,
      ⟨.push, 22, none, .ixAddr 2 (.s 2) (.s 1)⟩,
      ⟨.push, 23, none, .fldAddr 1 (.s 0)⟩,
      ⟨.no, 0, none, .store 1 (.s 0) (.s 2)⟩])
   (.region false [
     ⟨.push, 24, none, .mov (.v 1)⟩,
     ⟨.push, 25, none, .bin false .add (.s 0) (.c (.int .i64 (1)))⟩,
     ⟨.var 1, 1, none, .mov (.s 0)⟩])))))
 (.region false [
   ⟨.push, 10, none, .mov (.v 3)⟩,
   ⟨.push, 11, none, .bin false .add (.s 0) (.c (.int .i64 (1)))⟩,
   ⟨.var 3, 5, none, .mov (.s 0)⟩]))
def ir24_k0 : List Bool := [true, true, false, true]
def ir24_o0 : List Bool := [true, true, false, false]
def ir24_r0 : List Bool := [true, false, true, false]
def ir24_v : List Nat := [0, 1, 4, 5]
def ir24 : AFn := ⟨2, 4, .seq (.region false [
    ⟨.var 2, 4, none, .mov (.c (.int .i64 (0)))⟩])
 (.seq (.seq (.region false [
     ⟨.var 3, 5, none, .mov (.c (.int .i64 (0)))⟩])
  (.block 0 (.loop ir24_k0 ir24_o0 ir24_r0 ir24_b0)))
 (.seq (.region false [
    ⟨.push, 26, none, .mov (.v 1)⟩,
    ⟨.var 2, 4, none, .mov (.s 0)⟩])
 (.ret))), [.t 2]⟩
noncomputable def t_laws_markFaultS : List (Nat × Ctr) := []
noncomputable def c_laws_markFaultS : Ctr := mkN t_laws_markFaultS ir24 [.io, .bor]
theorem s_laws_markFaultS : Sound Try.prog 24 c_laws_markFaultS := mkN_sound _ snd_nil (by kernel_rfl : chkFn Try.prog 24 ir24 ir24_v = true)
theorem M_laws_markFaultS : c_laws_markFaultS.modes = [.io, .bor] := rfl
theorem Fl_laws_markFaultS : c_laws_markFaultS.flat = false := rfl
attribute [go_sem] M_laws_markFaultS Fl_laws_markFaultS
def E_laws_markFaultS_l1  : ((List Fault) × Int × Int) → St
  | (a, k, i) => ⟨[.own 31, .int .i64 k, .any, .int .i64 i], [], [(31, ⟨2, List.map Fault_av a⟩)], true⟩
def R_laws_markFaultS_l1  (y : (List Fault) × Int) : Res := (.exit 0, ⟨[.own 31, .int .i64 y.2, .any, .any], [], [(31, ⟨2, List.map Fault_av y.1⟩)], true⟩)
theorem laws_markFaultS_l1_ex  {sgm_ : (List Fault) × Int × Int} {rho_ : (List Fault) × Int} (h : whileE (laws_markFaultS_l1) sgm_ = some rho_) : ∃ L0, ∀ L, L0 ≤ L → iter (exec (look t_laws_markFaultS) L ir24_b0) ir24_k0 ir24_o0 ir24_r0 L (E_laws_markFaultS_l1 sgm_) = R_laws_markFaultS_l1 rho_ := by
  refine loop_ex (E := E_laws_markFaultS_l1) (R := R_laws_markFaultS_l1) (fun y => by first | (intro c; cases c) | (rcases y with y | y <;> (intro c; cases c)) | (rcases y with y | y | y <;> (intro c; cases c))) ?_ h
  clear h
  rintro ⟨a, k, i⟩ o_ h
  dsimp only [laws_markFaultS_l1] at h
  rcases it_some h with ⟨hk1, h⟩ | ⟨hk1, h⟩
  · try simp only [go_sem, n1, n2, n3, n4] at hk1
    all_goals
    obtain ⟨hk2, h⟩ := ck_some h
    have lhk2 := ix_lt hk2
    have xhk2 := getD_mapD Fault_av a lhk2
    try simp only [go_sem] at lhk2
    try simp only [go_sem] at xhk2
    try simp only [go_sem, n1, n2, n3, n4, hk1] at hk2
    all_goals
    obtain rfl := so_some h
    refine ⟨0, fun L hL => ?_⟩
    simp only [go_sem, ir24, E_laws_markFaultS_l1, R_laws_markFaultS_l1, ir24_b0, ir24_k0, ir24_o0, ir24_r0, hk1, hk2, lhk2, xhk2]
  · try simp only [go_sem, n1, n2, n3, n4] at hk1
    all_goals
    obtain rfl := so_some h
    refine ⟨0, fun L hL => ?_⟩
    simp only [go_sem, ir24, E_laws_markFaultS_l1, R_laws_markFaultS_l1, ir24_b0, ir24_k0, ir24_o0, ir24_r0, hk1]

theorem Fs_laws_markFaultS {a : List Fault} {k : Int} {y_ : Int × (List Fault)} (h : laws_markFaultS a k = some y_) : c_laws_markFaultS.F [.fresh 2 (List.map Fault_av a), .int .i64 k] = ⟨true, .int .i64 y_.1, [.fresh 2 (List.map Fault_av y_.2), .any]⟩ := by
  refine mkN_E ?_
  dsimp only [laws_markFaultS] at h
  obtain ⟨y_3, hk3, h⟩ := bd_some h
  obtain ⟨Lhk3, ehk3⟩ := laws_markFaultS_l1_ex hk3
  obtain ⟨hk4, h⟩ := ck_some h
  try simp only [go_sem, n1, n2, n3, n4] at hk4
  all_goals
  obtain rfl := so_some h
  refine ⟨Lhk3, fun L hL => ?_⟩
  have ehk3 := ehk3 L (by omega)
  try simp only [go_sem, E_laws_markFaultS_l1, R_laws_markFaultS_l1, ir24_k0, ir24_o0, ir24_r0] at ehk3
  simp only [go_sem, ir24, E_laws_markFaultS_l1, R_laws_markFaultS_l1, ir24_k0, ir24_o0, ir24_r0, hk4, ehk3]


def ir25_b0 : IR := .seq (.test false [
    ⟨.push, 6, none, .mov (.v 3)⟩,
    ⟨.push, 7, none, .mov (.v 0)⟩,
    ⟨.push, 8, none, .len false (.s 0)⟩,
    ⟨.push, 9, none, .bin false .lss (.s 2) (.s 0)⟩] (.s 0)
  (.skip)
  (.exit 0))
 (.seq (.block 1 (.seq (.test false [
      ⟨.push, 12, none, .mov (.v 0)⟩,
      ⟨.push, 13, none, .mov (.v 3)⟩,
      ⟨.push, 14, none, .ixAddr 5 (.s 1) (.s 0)⟩,
      ⟨.push, 15, none, .fldAddr 0 (.s 0)⟩,
      ⟨.push, 16, none, .load false 1 (.s 0)⟩,
      ⟨.push, 17, none, .mov (.v 1)⟩,
      ⟨.push, 18, none, .bin false .neq (.s 1) (.s 0)⟩] (.s 0)
    (.seq (.region false [
        ⟨.var 2, 4, none, .mov (.c (.int .i64 (-1)))⟩])
     (.ret))
    (.skip))
   (.seq (.region false [
      ⟨.push, 19, none, .mov (.v 1)⟩,
      ⟨.push, 20, none, .bin false .add (.s 0) (.c (.int .i64 (1)))⟩,
      ⟨.var 1, 1, none, .mov (.s 0)⟩])
   (.seq (.anyo 8 [
      ⟨.slot 0, 21, none, .mov (.v 0)⟩,
      ⟨.slot 1, 22, none, .mov (.v 3)⟩,
      ⟨.slot 2, 23, none, .ixAddr 5 (.s 0) (.s 1)⟩,
      ⟨.slot 3, 24, none, .fldAddr 1 (.s 2)⟩,
      ⟨.slot 4, 25, none, .load false 1 (.s 3)⟩,
      ⟨.slot 5, 26, none, .mov (.v 1)⟩,
      ⟨.slot 6, 27, none, .callp 62 [(.s 5)]⟩,
      ⟨.slot 7, 28, none, .bin false .neq (.s 4) (.s 6)⟩] [] (.cond (.s 7)
    (.seq (.region false [
        ⟨.var 2, 4, none, .mov (.c (.int .i64 (-1)))⟩])
     (.ret))
    (.skip)))
   (.seq (.region false [
      ⟨.push, 29, none, .mov (.v 1)⟩,
      ⟨.push, 30, none, .bin false .add (.s 0) (.c (.int .i64 (1)))⟩,
      ⟨.var 1, 1, none, .mov (.s 0)⟩])
   (.seq (.anyo 8 [
      ⟨.slot 0, 31, none, .mov (.v 0)⟩,
      ⟨.slot 1, 32, none, .mov (.v 3)⟩,
      ⟨.slot 2, 33, none, .ixAddr 5 (.s 0) (.s 1)⟩,
      ⟨.slot 3, 34, none, .fldAddr 2 (.s 2)⟩,
      ⟨.slot 4, 35, none, .load false 1 (.s 3)⟩,
      ⟨.slot 5, 36, none, .mov (.v 1)⟩,
      ⟨.slot 6, 37, none, .callp 62 [(.s 5)]⟩,
      ⟨.slot 7, 38, none, .bin false .neq (.s 4) (.s 6)⟩] [] (.cond (.s 7)
    (.seq (.region false [
        ⟨.var 2, 4, none, .mov (.c (.int .i64 (-1)))⟩])
     (.ret))
    (.skip)))
   (.seq (.region false [
      ⟨.push, 39, none, .mov (.v 1)⟩,
      ⟨.push, 40, none, .bin false .add (.s 0) (.c (.int .i64 (1)))⟩,
      ⟨.var 1, 1, none, .mov (.s 0)⟩])
   (.seq (.test false [
      ⟨.push, 41, none, .mov (.v 0)⟩,
      ⟨.push, 42, none, .mov (.v 3)⟩,
      ⟨.push, 43, none, .ixAddr 5 (.s 1) (.s 0)⟩,
      ⟨.push, 44, none, .fldAddr 3 (.s 0)⟩,
      ⟨.push, 45, none, .load false 1 (.s 0)⟩,
      ⟨.push, 46, none, .mov (.v 1)⟩,
      ⟨.push, 47, none, .bin false .neq (.s 1) (.s 0)⟩] (.s 0)
    (.seq (.region false [
        ⟨.var 2, 4, none, .mov (.c (.int .i64 (-1)))⟩])
     (.ret))
    (.skip))
   (.seq (.region false [
      ⟨.push, 48, none, .mov (.v 1)⟩,
      ⟨.push, 49, none, .bin false .add (.s 0) (.c (.int .i64 (1)))⟩,
      ⟨.var 1, 1, none, .mov (.s 0)⟩])
   (.seq (.test false [
      ⟨.push, 50, none, .mov (.v 0)⟩,
      ⟨.push, 51, none, .mov (.v 3)⟩,
      ⟨.push, 52, none, .ixAddr 5 (.s 1) (.s 0)⟩,
      ⟨.push, 53, none, .fldAddr 4 (.s 0)⟩,
      ⟨.push, 54, none, .load false 1 (.s 0)⟩,
      ⟨.push, 55, none, .mov (.v 1)⟩,
      ⟨.push, 56, none, .bin false .rem (.s 0) (.c (.int .i64 (3)))⟩,
      ⟨.push, 57, none, .bin false .eql (.s 0) (.c (.int .i64 (0)))⟩,
      ⟨.push, 58, none, .bin true .neq (.s 3) (.s 0)⟩] (.s 0)
    (.seq (.region false [
        ⟨.var 2, 4, none, .mov (.c (.int .i64 (-1)))⟩])
     (.ret))
    (.skip))
   (.region false [
     ⟨.push, 59, none, .mov (.v 1)⟩,
     ⟨.push, 60, none, .bin false .add (.s 0) (.c (.int .i64 (1)))⟩,
     ⟨.var 1, 1, none, .mov (.s 0)⟩])))))))))))
 (.region false [
   ⟨.push, 10, none, .mov (.v 3)⟩,
   ⟨.push, 11, none, .bin false .add (.s 0) (.c (.int .i64 (1)))⟩,
   ⟨.var 3, 5, none, .mov (.s 0)⟩]))
def ir25_k0 : List Bool := [true, true, false, true]
def ir25_o0 : List Bool := [false, true, false, false]
def ir25_r0 : List Bool := [false, false, true, false]
def ir25_v : List Nat := [0, 1, 4, 5]
def ir25 : AFn := ⟨2, 4, .seq (.region false [
    ⟨.var 2, 4, none, .mov (.c (.int .i64 (0)))⟩])
 (.seq (.seq (.region false [
     ⟨.var 3, 5, none, .mov (.c (.int .i64 (0)))⟩])
  (.block 0 (.loop ir25_k0 ir25_o0 ir25_r0 ir25_b0)))
 (.seq (.region false [
    ⟨.push, 61, none, .mov (.v 1)⟩,
    ⟨.var 2, 4, none, .mov (.s 0)⟩])
 (.ret))), [.t 2]⟩
noncomputable def t_laws_heldEstimateS : List (Nat × Ctr) := [(62, c_laws_markText)]
theorem lk_laws_heldEstimateS_62 : look t_laws_heldEstimateS 62 = some c_laws_markText := rfl
noncomputable def c_laws_heldEstimateS : Ctr := mkF t_laws_heldEstimateS ir25 [.bor, .bor]
theorem s_laws_heldEstimateS : Sound Try.prog 25 c_laws_heldEstimateS := mkF_sound _ rfl (snd_cons s_laws_markText snd_nil) (by kernel_rfl : chkFn Try.prog 25 ir25 ir25_v = true)
theorem M_laws_heldEstimateS : c_laws_heldEstimateS.modes = [.bor, .bor] := rfl
theorem Fl_laws_heldEstimateS : c_laws_heldEstimateS.flat = true := rfl
attribute [go_sem] M_laws_heldEstimateS Fl_laws_heldEstimateS
attribute [go_sem] lk_laws_heldEstimateS_62
def E_laws_heldEstimateS_l1 (a : List Estimate) : (Int × Int) → St
  | (k, i) => ⟨[.sl 5 (List.map Estimate_av a), .int .i64 k, .any, .int .i64 i], [], [], true⟩
def R_laws_heldEstimateS_l1 (a : List Estimate) : (Int ⊕ Int) → Res
  | .inl y => (.exit 0, ⟨[.any, .int .i64 y, .any, .any], [], [], true⟩)
  | .inr y => (.ret, ⟨[.any, .any, .int .i64 y, .any], [], [], true⟩)
theorem laws_heldEstimateS_l1_ex {a : List Estimate} {sgm_ : Int × Int} {rho_ : Int ⊕ Int} (h : whileE (laws_heldEstimateS_l1 a) sgm_ = some rho_) : ∃ L0, ∀ L, L0 ≤ L → iter (exec (look t_laws_heldEstimateS) L ir25_b0) ir25_k0 ir25_o0 ir25_r0 L (E_laws_heldEstimateS_l1 a sgm_) = R_laws_heldEstimateS_l1 a rho_ := by
  refine loop_ex (E := E_laws_heldEstimateS_l1 a) (R := R_laws_heldEstimateS_l1 a) (fun y => by first | (intro c; cases c) | (rcases y with y | y <;> (intro c; cases c)) | (rcases y with y | y | y <;> (intro c; cases c))) ?_ h
  clear h
  rintro ⟨k, i⟩ o_ h
  dsimp only [laws_heldEstimateS_l1] at h
  rcases it_some h with ⟨hk1, h⟩ | ⟨hk1, h⟩
  · try simp only [go_sem, n1, n2, n3, n4] at hk1
    all_goals
    obtain ⟨hk2, h⟩ := ck_some h
    have lhk2 := ix_lt hk2
    have xhk2 := getD_mapD Estimate_av a lhk2
    try simp only [go_sem] at lhk2
    try simp only [go_sem] at xhk2
    try simp only [go_sem, n1, n2, n3, n4, hk1] at hk2
    all_goals
    rcases it_some h with ⟨hk3, h⟩ | ⟨hk3, h⟩
    · try simp only [go_sem, n1, n2, n3, n4, hk1, hk2] at hk3
      all_goals
      obtain rfl := so_some h
      refine ⟨0, fun L hL => ?_⟩
      simp only [go_sem, ir25, E_laws_heldEstimateS_l1, R_laws_heldEstimateS_l1, ir25_b0, ir25_k0, ir25_o0, ir25_r0, hk1, hk2, lhk2, xhk2, hk3]
    · try simp only [go_sem, n1, n2, n3, n4, hk1, hk2] at hk3
      all_goals
      obtain ⟨y_4, hk4, h⟩ := bd_some h
      have fhk4 := Fs_laws_markText hk4
      try simp only [go_sem] at fhk4
      rcases it_some h with ⟨hk5, h⟩ | ⟨hk5, h⟩
      · try simp only [go_sem, n1, n2, n3, n4, hk1, hk2, hk3] at hk5
        all_goals
        obtain rfl := so_some h
        refine ⟨0, fun L hL => ?_⟩
        simp only [go_sem, ir25, E_laws_heldEstimateS_l1, R_laws_heldEstimateS_l1, ir25_b0, ir25_k0, ir25_o0, ir25_r0, hk1, hk2, lhk2, xhk2, hk3, fhk4, hk5]
      · try simp only [go_sem, n1, n2, n3, n4, hk1, hk2, hk3] at hk5
        all_goals
        obtain ⟨y_6, hk6, h⟩ := bd_some h
        have fhk6 := Fs_laws_markText hk6
        try simp only [go_sem] at fhk6
        rcases it_some h with ⟨hk7, h⟩ | ⟨hk7, h⟩
        · try simp only [go_sem, n1, n2, n3, n4, hk1, hk2, hk3, hk5] at hk7
          all_goals
          obtain rfl := so_some h
          refine ⟨0, fun L hL => ?_⟩
          simp only [go_sem, ir25, E_laws_heldEstimateS_l1, R_laws_heldEstimateS_l1, ir25_b0, ir25_k0, ir25_o0, ir25_r0, hk1, hk2, lhk2, xhk2, hk3, fhk4, hk5, fhk6, hk7]
        · try simp only [go_sem, n1, n2, n3, n4, hk1, hk2, hk3, hk5] at hk7
          all_goals
          rcases it_some h with ⟨hk8, h⟩ | ⟨hk8, h⟩
          · try simp only [go_sem, n1, n2, n3, n4, hk1, hk2, hk3, hk5, hk7] at hk8
            all_goals
            obtain rfl := so_some h
            refine ⟨0, fun L hL => ?_⟩
            simp only [go_sem, ir25, E_laws_heldEstimateS_l1, R_laws_heldEstimateS_l1, ir25_b0, ir25_k0, ir25_o0, ir25_r0, hk1, hk2, lhk2, xhk2, hk3, fhk4, hk5, fhk6, hk7, hk8]
          · try simp only [go_sem, n1, n2, n3, n4, hk1, hk2, hk3, hk5, hk7] at hk8
            all_goals
            obtain ⟨hk9, h⟩ := ck_some h
            try simp only [go_sem, n1, n2, n3, n4, hk1, hk2, hk3, hk5, hk7, hk8] at hk9
            all_goals
            rcases it_some h with ⟨hk10, h⟩ | ⟨hk10, h⟩
            · try simp only [go_sem, n1, n2, n3, n4, hk1, hk2, hk3, hk5, hk7, hk8, hk9] at hk10
              all_goals
              obtain rfl := so_some h
              refine ⟨0, fun L hL => ?_⟩
              simp only [go_sem, ir25, E_laws_heldEstimateS_l1, R_laws_heldEstimateS_l1, ir25_b0, ir25_k0, ir25_o0, ir25_r0, hk1, hk2, lhk2, xhk2, hk3, fhk4, hk5, fhk6, hk7, hk8, hk9, hk10]
            · try simp only [go_sem, n1, n2, n3, n4, hk1, hk2, hk3, hk5, hk7, hk8, hk9] at hk10
              all_goals
              obtain rfl := so_some h
              refine ⟨0, fun L hL => ?_⟩
              simp only [go_sem, ir25, E_laws_heldEstimateS_l1, R_laws_heldEstimateS_l1, ir25_b0, ir25_k0, ir25_o0, ir25_r0, hk1, hk2, lhk2, xhk2, hk3, fhk4, hk5, fhk6, hk7, hk8, hk9, hk10]
  · try simp only [go_sem, n1, n2, n3, n4] at hk1
    all_goals
    obtain rfl := so_some h
    refine ⟨0, fun L hL => ?_⟩
    simp only [go_sem, ir25, E_laws_heldEstimateS_l1, R_laws_heldEstimateS_l1, ir25_b0, ir25_k0, ir25_o0, ir25_r0, hk1]

theorem Fs_laws_heldEstimateS {a : List Estimate} {k : Int} {y_ : Int} (h : laws_heldEstimateS a k = some y_) : c_laws_heldEstimateS.F [.sl 5 (List.map Estimate_av a), .int .i64 k] = ⟨true, .int .i64 y_, [.any, .any]⟩ := by
  refine mkF_E rfl ?_
  dsimp only [laws_heldEstimateS] at h
  obtain ⟨y_11, hk11, h⟩ := bd_some h
  obtain ⟨Lhk11, ehk11⟩ := laws_heldEstimateS_l1_ex hk11
  rcases y_11 with y_11a | y_11b
  · dsimp only at h
    obtain rfl := so_some h
    refine ⟨Lhk11, fun L hL => ?_⟩
    have ehk11 := ehk11 L (by omega)
    try simp only [go_sem, E_laws_heldEstimateS_l1, R_laws_heldEstimateS_l1, ir25_k0, ir25_o0, ir25_r0] at ehk11
    simp only [go_sem, ir25, E_laws_heldEstimateS_l1, R_laws_heldEstimateS_l1, ir25_k0, ir25_o0, ir25_r0, ehk11]
  · dsimp only at h
    obtain rfl := so_some h
    refine ⟨Lhk11, fun L hL => ?_⟩
    have ehk11 := ehk11 L (by omega)
    try simp only [go_sem, E_laws_heldEstimateS_l1, R_laws_heldEstimateS_l1, ir25_k0, ir25_o0, ir25_r0] at ehk11
    simp only [go_sem, ir25, E_laws_heldEstimateS_l1, R_laws_heldEstimateS_l1, ir25_k0, ir25_o0, ir25_r0, ehk11]


def ir5_v : List Nat := [0, 1, 4, 5, 6, 7, 8, 9, 10, 11, 12, 13, 14, 15, 16]
def ir5 : AFn := ⟨2, 15, .seq (.region false [
    ⟨.var 2, 4, none, .mov (.c (.bool false))⟩])
 (.seq (.region false [
    ⟨.var 3, 5, none, .mov (.c (.int .i64 (1048576)))⟩])
 (.seq (.region false [
    ⟨.push, 17, none, .mov (.v 0)⟩,
    ⟨.push, 18, none, .mov (.v 3)⟩,
    ⟨.push, 19, none, .call 15 [(.s 1), (.s 0)]⟩,
    ⟨.var 3, 5, none, .mov (.s 0)⟩])
 (.seq (.test false [
    ⟨.push, 20, none, .mov (.v 3)⟩,
    ⟨.push, 21, none, .bin false .lss (.s 0) (.c (.int .i64 (0)))⟩] (.s 0)
  (.seq (.region false [
      ⟨.var 2, 4, none, .mov (.c (.bool true))⟩])
   (.ret))
  (.skip))
 (.seq (.region false [
    ⟨.push, 22, none, .mov (.v 1)⟩,
    ⟨.push, 23, none, .mov (.v 3)⟩,
    ⟨.push, 24, none, .call 16 [(.s 1), (.s 0)]⟩,
    ⟨.var 3, 5, none, .mov (.s 0)⟩])
 (.seq (.test false [
    ⟨.push, 25, none, .mov (.v 3)⟩,
    ⟨.push, 26, none, .bin false .lss (.s 0) (.c (.int .i64 (0)))⟩] (.s 0)
  (.seq (.region false [
      ⟨.var 2, 4, none, .mov (.c (.bool true))⟩])
   (.ret))
  (.skip))
 (.seq (.region false [
    ⟨.push, 28, none, .mov (.v 0)⟩,
    ⟨.push, 29, none, .call 18 [(.s 0)]⟩,
    ⟨.push, 30, none, .mov (.v 1)⟩,
    ⟨.push, 31, none, .call 19 [(.s 0)]⟩,
    ⟨.push, 32, none, .call 17 [(.s 2), (.s 0)]⟩,
    ⟨.push, 27, none, .mov (.s 0)⟩,
    ⟨.push, 33, none, .ext (.s 0) 0⟩,
    ⟨.push, 34, none, .ext (.s 1) 1⟩,
    ⟨.var 4, 6, none, .mov (.s 1)⟩,
    ⟨.var 5, 7, none, .mov (.s 0)⟩])
 (.seq (.region false [
    ⟨.push, 35, none, .mov (.v 0)⟩,
    ⟨.push, 36, none, .call 18 [(.s 0)]⟩,
    ⟨.var 6, 8, none, .mov (.s 0)⟩])
 (.seq (.region false [
    ⟨.push, 37, none, .mov (.v 1)⟩,
    ⟨.push, 38, none, .call 19 [(.s 0)]⟩,
    ⟨.var 7, 9, none, .mov (.s 0)⟩])
 (.seq (.region false [
    ⟨.push, 40, none, .mov (.v 6)⟩,
    ⟨.push, 41, none, .mov (.v 7)⟩,
    ⟨.push, 42, none, .call 20 [(.s 1), (.s 0)]⟩,
    ⟨.push, 39, none, .mov (.s 0)⟩,
    ⟨.push, 43, none, .ext (.s 0) 0⟩,
    ⟨.push, 44, none, .ext (.s 1) 1⟩,
    ⟨.var 8, 10, none, .mov (.s 1)⟩,
    ⟨.var 9, 11, none, .mov (.s 0)⟩])
 (.seq (.test false [
    ⟨.push, 45, none, .mov (.v 8)⟩,
    ⟨.push, 46, none, .mov (.v 4)⟩,
    ⟨.push, 47, none, .call 21 [(.s 1), (.s 0)]⟩,
    ⟨.push, 48, none, .un .not (.s 0)⟩,
    ⟨.push, 49, none, .mov (.s 0)⟩,
    ⟨.push, 50, (some ((.s 0), false)), .mov (.v 9)⟩,
    ⟨.push, 51, (some ((.s 1), false)), .mov (.v 5)⟩,
    ⟨.push, 52, (some ((.s 2), false)), .bin false .neq (.s 1) (.s 0)⟩,
    ⟨.push, 53, none, .pick (.s 3) (.c (.bool true)) (.s 0)⟩] (.s 0)
  (.seq (.region false [
      ⟨.var 2, 4, none, .mov (.c (.bool false))⟩])
   (.ret))
  (.skip))
 (.seq (.test false [
    ⟨.push, 54, none, .mov (.v 6)⟩,
    ⟨.push, 55, none, .mov (.v 0)⟩,
    ⟨.push, 56, none, .call 18 [(.s 0)]⟩,
    ⟨.push, 57, none, .call 21 [(.s 2), (.s 0)]⟩,
    ⟨.push, 58, none, .un .not (.s 0)⟩] (.s 0)
  (.seq (.region false [
      ⟨.var 2, 4, none, .mov (.c (.bool false))⟩])
   (.ret))
  (.skip))
 (.seq (.test false [
    ⟨.push, 59, none, .mov (.v 7)⟩,
    ⟨.push, 60, none, .mov (.v 1)⟩,
    ⟨.push, 61, none, .call 19 [(.s 0)]⟩,
    ⟨.push, 62, none, .call 22 [(.s 2), (.s 0)]⟩,
    ⟨.push, 63, none, .un .not (.s 0)⟩] (.s 0)
  (.seq (.region false [
      ⟨.var 2, 4, none, .mov (.c (.bool false))⟩])
   (.ret))
  (.skip))
 (.seq (.region false [
    ⟨.var 10, 12, none, .mov (.c (.int .i64 (1)))⟩])
 (.seq (.region false [
    ⟨.push, 64, none, .mov (.v 6)⟩,
    ⟨.push, 65, none, .mov (.v 10)⟩,
    ⟨.push, 66, none, .call 23 [(.s 1), (.s 0)]⟩,
    ⟨.var 10, 12, none, .mov (.s 0)⟩])
 (.seq (.region false [
    ⟨.push, 67, none, .mov (.v 7)⟩,
    ⟨.push, 68, none, .mov (.v 10)⟩,
    ⟨.push, 69, none, .call 24 [(.s 1), (.s 0)]⟩,
    ⟨.var 10, 12, none, .mov (.s 0)⟩])
 (.seq (.test false [
    ⟨.push, 70, none, .mov (.v 10)⟩,
    ⟨.push, 71, none, .bin false .lss (.s 0) (.c (.int .i64 (0)))⟩,
    ⟨.push, 72, none, .mov (.s 0)⟩,
    ⟨.push, 73, (some ((.s 0), false)), .mov (.v 8)⟩,
    ⟨.push, 74, (some ((.s 1), false)), .mov (.v 4)⟩,
    ⟨.push, 75, (some ((.s 2), false)), .call 21 [(.s 1), (.s 0)]⟩,
    ⟨.push, 76, (some ((.s 3), false)), .un .not (.s 0)⟩,
    ⟨.push, 77, none, .pick (.s 4) (.c (.bool true)) (.s 0)⟩,
    ⟨.push, 78, none, .mov (.s 0)⟩,
    ⟨.push, 79, (some ((.s 0), false)), .mov (.v 9)⟩,
    ⟨.push, 80, (some ((.s 1), false)), .mov (.v 5)⟩,
    ⟨.push, 81, (some ((.s 2), false)), .bin false .neq (.s 1) (.s 0)⟩,
    ⟨.push, 82, none, .pick (.s 3) (.c (.bool true)) (.s 0)⟩] (.s 0)
  (.seq (.region false [
      ⟨.var 2, 4, none, .mov (.c (.bool false))⟩])
   (.ret))
  (.skip))
 (.seq (.region false [
    ⟨.var 11, 13, none, .mov (.c (.int .i64 (1)))⟩])
 (.seq (.region false [
    ⟨.push, 83, none, .mov (.v 8)⟩,
    ⟨.push, 84, none, .mov (.v 11)⟩,
    ⟨.push, 85, none, .call 23 [(.s 1), (.s 0)]⟩,
    ⟨.var 11, 13, none, .mov (.s 0)⟩])
 (.seq (.region false [
    ⟨.var 12, 14, none, .mov (.c (.int .i64 (1)))⟩])
 (.seq (.region false [
    ⟨.push, 86, none, .mov (.v 8)⟩,
    ⟨.push, 87, none, .mov (.v 12)⟩,
    ⟨.push, 88, none, .call 25 [(.s 1), (.s 0)]⟩,
    ⟨.var 12, 14, none, .mov (.s 0)⟩])
 (.seq (.test false [
    ⟨.push, 89, none, .mov (.v 12)⟩,
    ⟨.push, 90, none, .bin false .lss (.s 0) (.c (.int .i64 (0)))⟩] (.s 0)
  (.seq (.region false [
      ⟨.var 2, 4, none, .mov (.c (.bool false))⟩])
   (.ret))
  (.skip))
 (.seq (.test false [
    ⟨.push, 91, none, .mov (.v 12)⟩,
    ⟨.push, 92, none, .mov (.v 11)⟩,
    ⟨.push, 93, none, .bin false .neq (.s 1) (.s 0)⟩] (.s 0)
  (.seq (.region false [
      ⟨.var 2, 4, none, .mov (.c (.bool false))⟩])
   (.ret))
  (.skip))
 (.seq (.region false [
    ⟨.push, 95, none, .mov (.v 0)⟩,
    ⟨.push, 96, none, .call 18 [(.s 0)]⟩,
    ⟨.push, 97, none, .mov (.v 1)⟩,
    ⟨.push, 98, none, .call 19 [(.s 0)]⟩,
    ⟨.push, 99, none, .call 20 [(.s 2), (.s 0)]⟩,
    ⟨.push, 94, none, .mov (.s 0)⟩,
    ⟨.push, 100, none, .ext (.s 0) 0⟩,
    ⟨.push, 101, none, .ext (.s 1) 1⟩,
    ⟨.var 13, 15, none, .mov (.s 1)⟩,
    ⟨.var 14, 16, none, .mov (.s 0)⟩])
 (.seq (.test false [
    ⟨.push, 102, none, .mov (.v 13)⟩,
    ⟨.push, 103, none, .mov (.v 4)⟩,
    ⟨.push, 104, none, .call 21 [(.s 1), (.s 0)]⟩,
    ⟨.push, 105, none, .un .not (.s 0)⟩,
    ⟨.push, 106, none, .mov (.s 0)⟩,
    ⟨.push, 107, (some ((.s 0), false)), .mov (.v 14)⟩,
    ⟨.push, 108, (some ((.s 1), false)), .mov (.v 5)⟩,
    ⟨.push, 109, (some ((.s 2), false)), .bin false .neq (.s 1) (.s 0)⟩,
    ⟨.push, 110, none, .pick (.s 3) (.c (.bool true)) (.s 0)⟩] (.s 0)
  (.seq (.region false [
      ⟨.var 2, 4, none, .mov (.c (.bool false))⟩])
   (.ret))
  (.skip))
 (.seq (.region false [
    ⟨.var 12, 14, none, .mov (.c (.int .i64 (1)))⟩])
 (.seq (.region false [
    ⟨.push, 111, none, .mov (.v 8)⟩,
    ⟨.push, 112, none, .mov (.v 12)⟩,
    ⟨.push, 113, none, .call 25 [(.s 1), (.s 0)]⟩,
    ⟨.var 12, 14, none, .mov (.s 0)⟩])
 (.seq (.test false [
    ⟨.push, 114, none, .mov (.v 12)⟩,
    ⟨.push, 115, none, .bin false .lss (.s 0) (.c (.int .i64 (0)))⟩] (.s 0)
  (.seq (.region false [
      ⟨.var 2, 4, none, .mov (.c (.bool false))⟩])
   (.ret))
  (.skip))
 (.seq (.test false [
    ⟨.push, 116, none, .mov (.v 12)⟩,
    ⟨.push, 117, none, .mov (.v 11)⟩,
    ⟨.push, 118, none, .bin false .neq (.s 1) (.s 0)⟩] (.s 0)
  (.seq (.region false [
      ⟨.var 2, 4, none, .mov (.c (.bool false))⟩])
   (.ret))
  (.skip))
 (.seq (.region false [
    ⟨.var 2, 4, none, .mov (.c (.bool true))⟩])
 (.ret)))))))))))))))))))))))))))))), [.t 2]⟩
noncomputable def t_laws_FnExactCleanEstimates : List (Nat × Ctr) := [(15, c_laws_szEstimateS), (16, c_laws_szFaultS), (18, c_laws_toEstimateS), (19, c_laws_toFaultS), (17, c_spec_CleanEstimates), (20, c_impl_CleanEstimates), (21, c_laws_eqEstimateS), (22, c_laws_eqFaultS), (23, c_laws_markEstimateS), (24, c_laws_markFaultS), (25, c_laws_heldEstimateS)]
theorem lk_laws_FnExactCleanEstimates_15 : look t_laws_FnExactCleanEstimates 15 = some c_laws_szEstimateS := rfl
theorem lk_laws_FnExactCleanEstimates_16 : look t_laws_FnExactCleanEstimates 16 = some c_laws_szFaultS := rfl
theorem lk_laws_FnExactCleanEstimates_18 : look t_laws_FnExactCleanEstimates 18 = some c_laws_toEstimateS := rfl
theorem lk_laws_FnExactCleanEstimates_19 : look t_laws_FnExactCleanEstimates 19 = some c_laws_toFaultS := rfl
theorem lk_laws_FnExactCleanEstimates_17 : look t_laws_FnExactCleanEstimates 17 = some c_spec_CleanEstimates := rfl
theorem lk_laws_FnExactCleanEstimates_20 : look t_laws_FnExactCleanEstimates 20 = some c_impl_CleanEstimates := rfl
theorem lk_laws_FnExactCleanEstimates_21 : look t_laws_FnExactCleanEstimates 21 = some c_laws_eqEstimateS := rfl
theorem lk_laws_FnExactCleanEstimates_22 : look t_laws_FnExactCleanEstimates 22 = some c_laws_eqFaultS := rfl
theorem lk_laws_FnExactCleanEstimates_23 : look t_laws_FnExactCleanEstimates 23 = some c_laws_markEstimateS := rfl
theorem lk_laws_FnExactCleanEstimates_24 : look t_laws_FnExactCleanEstimates 24 = some c_laws_markFaultS := rfl
theorem lk_laws_FnExactCleanEstimates_25 : look t_laws_FnExactCleanEstimates 25 = some c_laws_heldEstimateS := rfl
noncomputable def c_laws_FnExactCleanEstimates : Ctr := mkF t_laws_FnExactCleanEstimates ir5 [.bor, .bor]
theorem s_laws_FnExactCleanEstimates : Sound Try.prog 5 c_laws_FnExactCleanEstimates := mkF_sound _ rfl (snd_cons s_laws_szEstimateS (snd_cons s_laws_szFaultS (snd_cons s_laws_toEstimateS (snd_cons s_laws_toFaultS (snd_cons s_spec_CleanEstimates (snd_cons s_impl_CleanEstimates (snd_cons s_laws_eqEstimateS (snd_cons s_laws_eqFaultS (snd_cons s_laws_markEstimateS (snd_cons s_laws_markFaultS (snd_cons s_laws_heldEstimateS snd_nil))))))))))) (by kernel_rfl : chkFn Try.prog 5 ir5 ir5_v = true)
theorem M_laws_FnExactCleanEstimates : c_laws_FnExactCleanEstimates.modes = [.bor, .bor] := rfl
theorem Fl_laws_FnExactCleanEstimates : c_laws_FnExactCleanEstimates.flat = true := rfl
attribute [go_sem] M_laws_FnExactCleanEstimates Fl_laws_FnExactCleanEstimates
attribute [go_sem] lk_laws_FnExactCleanEstimates_15 lk_laws_FnExactCleanEstimates_16 lk_laws_FnExactCleanEstimates_18 lk_laws_FnExactCleanEstimates_19 lk_laws_FnExactCleanEstimates_17 lk_laws_FnExactCleanEstimates_20 lk_laws_FnExactCleanEstimates_21 lk_laws_FnExactCleanEstimates_22 lk_laws_FnExactCleanEstimates_23 lk_laws_FnExactCleanEstimates_24 lk_laws_FnExactCleanEstimates_25
theorem Fs_laws_FnExactCleanEstimates {aList : List Estimate} {aFaults : List Fault} {y_ : Bool} (h : laws_FnExactCleanEstimates aList aFaults = some y_) : c_laws_FnExactCleanEstimates.F [.sl 5 (List.map Estimate_av aList), .sl 2 (List.map Fault_av aFaults)] = ⟨true, .bool y_, [.any, .any]⟩ := by
  refine mkF_E rfl ?_
  dsimp only [laws_FnExactCleanEstimates] at h
  obtain ⟨y_1, hk1, h⟩ := bd_some h
  have fhk1 := Fs_laws_szEstimateS hk1
  try simp only [go_sem] at fhk1
  rcases it_some h with ⟨hk2, h⟩ | ⟨hk2, h⟩
  · try simp only [go_sem, n1, n2, n3, n4] at hk2
    all_goals
    obtain rfl := so_some h
    refine ⟨0, fun L hL => ?_⟩
    simp only [go_sem, ir5, fhk1, hk2]
  · try simp only [go_sem, n1, n2, n3, n4] at hk2
    all_goals
    obtain ⟨y_3, hk3, h⟩ := bd_some h
    have fhk3 := Fs_laws_szFaultS hk3
    try simp only [go_sem] at fhk3
    rcases it_some h with ⟨hk4, h⟩ | ⟨hk4, h⟩
    · try simp only [go_sem, n1, n2, n3, n4, hk2] at hk4
      all_goals
      obtain rfl := so_some h
      refine ⟨0, fun L hL => ?_⟩
      simp only [go_sem, ir5, fhk1, hk2, fhk3, hk4]
    · try simp only [go_sem, n1, n2, n3, n4, hk2] at hk4
      all_goals
      obtain ⟨y_5, hk5, h⟩ := bd_some h
      have fhk5 := Fs_laws_toEstimateS hk5
      try simp only [go_sem] at fhk5
      obtain ⟨y_6, hk6, h⟩ := bd_some h
      have fhk6 := Fs_laws_toFaultS hk6
      try simp only [go_sem] at fhk6
      obtain ⟨y_7, hk7, h⟩ := bd_some h
      have fhk7 := Fs_spec_CleanEstimates hk7
      try simp only [go_sem] at fhk7
      obtain ⟨y_8, hk8, h⟩ := bd_some h
      have fhk8 := Fs_impl_CleanEstimates hk8
      try simp only [go_sem] at fhk8
      obtain ⟨y_9, hk9, h⟩ := bd_some h
      have fhk9 := Fs_laws_eqEstimateS hk9
      try simp only [go_sem] at fhk9
      rcases it_some h with ⟨hk10, h⟩ | ⟨hk10, h⟩
      · try simp only [go_sem, n1, n2, n3, n4, hk2, hk4] at hk10
        all_goals
        obtain rfl := so_some h
        refine ⟨0, fun L hL => ?_⟩
        simp only [go_sem, ir5, fhk1, hk2, fhk3, hk4, fhk5, fhk6, fhk7, fhk8, fhk9, hk10]
      · try simp only [go_sem, n1, n2, n3, n4, hk2, hk4] at hk10
        all_goals
        obtain ⟨y_11, hk11, h⟩ := bd_some h
        have fhk11 := Fs_laws_eqEstimateS hk11
        try simp only [go_sem] at fhk11
        rcases it_some h with ⟨hk12, h⟩ | ⟨hk12, h⟩
        · try simp only [go_sem, n1, n2, n3, n4, hk2, hk4, hk10] at hk12
          all_goals
          obtain rfl := so_some h
          refine ⟨0, fun L hL => ?_⟩
          simp only [go_sem, ir5, fhk1, hk2, fhk3, hk4, fhk5, fhk6, fhk7, fhk8, fhk9, hk10, fhk11, hk12]
        · try simp only [go_sem, n1, n2, n3, n4, hk2, hk4, hk10] at hk12
          all_goals
          obtain ⟨y_13, hk13, h⟩ := bd_some h
          have fhk13 := Fs_laws_eqFaultS hk13
          try simp only [go_sem] at fhk13
          rcases it_some h with ⟨hk14, h⟩ | ⟨hk14, h⟩
          · try simp only [go_sem, n1, n2, n3, n4, hk2, hk4, hk10, hk12] at hk14
            all_goals
            obtain rfl := so_some h
            refine ⟨0, fun L hL => ?_⟩
            simp only [go_sem, ir5, fhk1, hk2, fhk3, hk4, fhk5, fhk6, fhk7, fhk8, fhk9, hk10, fhk11, hk12, fhk13, hk14]
          · try simp only [go_sem, n1, n2, n3, n4, hk2, hk4, hk10, hk12] at hk14
            all_goals
            obtain ⟨y_15, hk15, h⟩ := bd_some h
            have fhk15 := Fs_laws_markEstimateS hk15
            try simp only [go_sem] at fhk15
            obtain ⟨y_16, hk16, h⟩ := bd_some h
            have fhk16 := Fs_laws_markFaultS hk16
            try simp only [go_sem] at fhk16
            rcases it_some h with ⟨hk18, h⟩ | ⟨hk18, h⟩
            · try simp only [go_sem, n1, n2, n3, n4, hk2, hk4, hk10, hk12, hk14] at hk18
              all_goals
              obtain rfl := so_some h
              refine ⟨0, fun L hL => ?_⟩
              simp only [go_sem, ir5, fhk1, hk2, fhk3, hk4, fhk5, fhk6, fhk7, fhk8, fhk9, hk10, fhk11, hk12, fhk13, hk14, fhk15, fhk16, hk18]
            · try simp only [go_sem, n1, n2, n3, n4, hk2, hk4, hk10, hk12, hk14] at hk18
              all_goals
              obtain ⟨y_19, hk19, h⟩ := bd_some h
              have fhk19 := Fs_laws_markEstimateS hk19
              try simp only [go_sem] at fhk19
              obtain ⟨y_20, hk20, h⟩ := bd_some h
              have fhk20 := Fs_laws_heldEstimateS hk20
              try simp only [go_sem] at fhk20
              rcases it_some h with ⟨hk21, h⟩ | ⟨hk21, h⟩
              · try simp only [go_sem, n1, n2, n3, n4, hk2, hk4, hk10, hk12, hk14, hk18] at hk21
                all_goals
                obtain rfl := so_some h
                refine ⟨0, fun L hL => ?_⟩
                simp only [go_sem, ir5, fhk1, hk2, fhk3, hk4, fhk5, fhk6, fhk7, fhk8, fhk9, hk10, fhk11, hk12, fhk13, hk14, fhk15, fhk16, hk18, fhk19, fhk20, hk21]
              · try simp only [go_sem, n1, n2, n3, n4, hk2, hk4, hk10, hk12, hk14, hk18] at hk21
                all_goals
                rcases it_some h with ⟨hk22, h⟩ | ⟨hk22, h⟩
                · try simp only [go_sem, n1, n2, n3, n4, hk2, hk4, hk10, hk12, hk14, hk18, hk21] at hk22
                  all_goals
                  obtain rfl := so_some h
                  refine ⟨0, fun L hL => ?_⟩
                  simp only [go_sem, ir5, fhk1, hk2, fhk3, hk4, fhk5, fhk6, fhk7, fhk8, fhk9, hk10, fhk11, hk12, fhk13, hk14, fhk15, fhk16, hk18, fhk19, fhk20, hk21, hk22]
                · try simp only [go_sem, n1, n2, n3, n4, hk2, hk4, hk10, hk12, hk14, hk18, hk21] at hk22
                  all_goals
                  obtain rfl := so_some h
                  refine ⟨0, fun L hL => ?_⟩
                  simp only [go_sem, ir5, fhk1, hk2, fhk3, hk4, fhk5, fhk6, fhk7, fhk8, fhk9, hk10, fhk11, hk12, fhk13, hk14, fhk15, fhk16, hk18, fhk19, fhk20, hk21, hk22]


end Go.Proofs.Ytgbibhhblimfiab
