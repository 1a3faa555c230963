/- The statement FnExactFaultName: the law returns true for every kind. No condition. -/
import Derived.Test.YtkapngmboghaeaaEngZ
import Derived.Test.YtkapngmboghaeaaEngB
import Derived.Test.YtkapngmboghaeaaRows
import Derived.WalkKit
namespace Go.Proofs.Ytkapngmboghaeaa.fnExactFaultName
open Go Go.ChangeShapes Go.WideShapes Go.ChangeAt Go.RowKit
set_option linter.unusedVariables false
set_option linter.unusedSimpArgs false



def ir31_v : List Nat := [0, 1, 2, 6]
def ir31 : AFn := ⟨3, 4, .seq (.region false [
    ⟨.var 3, 6, none, .mov (.c (.bool false))⟩])
 (.seq (.region false [
    ⟨.push, 7, none, .mov (.v 0)⟩,
    ⟨.push, 8, none, .mov (.v 1)⟩,
    ⟨.push, 9, none, .bin false .geq (.s 1) (.s 0)⟩,
    ⟨.push, 10, none, .mov (.s 0)⟩,
    ⟨.push, 11, (some ((.s 0), true)), .mov (.v 0)⟩,
    ⟨.push, 12, (some ((.s 1), true)), .mov (.v 2)⟩,
    ⟨.push, 13, (some ((.s 2), true)), .bin false .leq (.s 1) (.s 0)⟩,
    ⟨.push, 14, none, .pick (.s 3) (.s 0) (.c (.bool false))⟩,
    ⟨.var 3, 6, none, .mov (.s 0)⟩])
 (.ret)), [.t 3]⟩


def ir3_v : List Nat := [0, 2, 3, 4]
def ir3 : AFn := ⟨1, 4, .seq (.region false [
    ⟨.var 1, 2, none, .mov (.c (.bool false))⟩])
 (.seq (.region false [
    ⟨.push, 5, none, .mov (.v 0)⟩,
    ⟨.push, 6, none, .call 7 [(.s 0)]⟩,
    ⟨.var 2, 3, none, .mov (.s 0)⟩])
 (.seq (.region false [
    ⟨.push, 7, none, .mov (.v 0)⟩,
    ⟨.push, 8, none, .call 8 [(.s 0)]⟩,
    ⟨.var 3, 4, none, .mov (.s 0)⟩])
 (.seq (.test false [
    ⟨.push, 9, none, .mov (.v 3)⟩,
    ⟨.push, 10, none, .mov (.v 2)⟩,
    ⟨.push, 11, none, .bin false .neq (.s 1) (.s 0)⟩] (.s 0)
  (.seq (.region false [
      ⟨.var 1, 2, none, .mov (.c (.bool false))⟩])
   (.ret))
  (.skip))
 (.seq (.region false [
    ⟨.var 1, 2, none, .mov (.c (.bool true))⟩])
 (.ret))))), [.t 1]⟩

def ir7_v : List Nat := [0, 2]
def ir7 : AFn := ⟨1, 2, .seq (.region false [
    ⟨.var 1, 2, none, .mov (.c (.str []))⟩])
 (.seq (.test false [
    ⟨.push, 3, none, .mov (.v 0)⟩,
    ⟨.push, 4, none, .call 22 [(.s 0)]⟩,
    ⟨.push, 5, none, .un .not (.s 0)⟩] (.s 0)
  (.seq (.region false [
      ⟨.var 1, 2, none, .mov (.c (.str []))⟩])
   (.ret))
  (.skip))
 (.seq (.region false [
    ⟨.push, 6, none, .call 23 []⟩,
    ⟨.push, 7, none, .mov (.v 0)⟩,
    ⟨.push, 8, none, .bin false .sub (.s 0) (.c (.int .i64 (1)))⟩,
    ⟨.push, 9, none, .ixAddr 1 (.s 2) (.s 0)⟩,
    ⟨.push, 10, none, .load false 1 (.s 0)⟩,
    ⟨.var 1, 2, none, .mov (.s 0)⟩])
 (.ret))), [.t 1]⟩

def ir8_v : List Nat := [0, 2]
def ir8 : AFn := ⟨1, 2, .seq (.region false [
    ⟨.var 1, 2, none, .mov (.c (.str []))⟩])
 (.seq (.test false [
    ⟨.push, 3, none, .mov (.v 0)⟩,
    ⟨.push, 4, none, .call 24 [(.s 0), (.c (.int .i64 (1))), (.c (.int .i64 (5)))]⟩,
    ⟨.push, 5, none, .un .not (.s 0)⟩] (.s 0)
  (.seq (.region false [
      ⟨.var 1, 2, none, .mov (.c (.str []))⟩])
   (.ret))
  (.skip))
 (.seq (.region false [
    ⟨.push, 6, none, .call 25 []⟩,
    ⟨.push, 7, none, .mov (.v 0)⟩,
    ⟨.push, 8, none, .bin false .sub (.s 0) (.c (.int .i64 (1)))⟩,
    ⟨.push, 9, none, .ixAddr 1 (.s 2) (.s 0)⟩,
    ⟨.push, 10, none, .load false 1 (.s 0)⟩,
    ⟨.var 1, 2, none, .mov (.s 0)⟩])
 (.ret))), [.t 1]⟩

def ir22_v : List Nat := [0, 2]
def ir22 : AFn := ⟨1, 2, .seq (.region false [
    ⟨.var 1, 2, none, .mov (.c (.bool false))⟩])
 (.seq (.region false [
    ⟨.push, 3, none, .mov (.v 0)⟩,
    ⟨.push, 4, none, .call 31 [(.s 0), (.c (.int .i64 (1))), (.c (.int .i64 (5)))]⟩,
    ⟨.var 1, 2, none, .mov (.s 0)⟩])
 (.ret)), [.t 1]⟩

def ir23_v : List Nat := [0]
def ir23 : AFn := ⟨0, 1, .seq (.region false [
    ⟨.var 0, 0, none, .mov (.c (.nilsl))⟩])
 (.seq (.region false [
    ⟨.push, 1, none, .mkSl 1 (.str []) 5 [(0, (.c (.str [115, 116, 97, 114]))), (1, (.c (.str [111, 98, 115, 101, 114, 118, 101, 114]))), (2, (.c (.str [98, 114, 105, 103, 104, 116]))), (3, (.c (.str [102, 97, 105, 110, 116]))), (4, (.c (.str [116, 119, 105, 110])))]⟩,
    ⟨.var 0, 0, none, .mov (.s 0)⟩])
 (.ret)), [.t 0]⟩

def ir24_v : List Nat := [0, 1, 2, 6]
def ir24 : AFn := ⟨3, 4, .seq (.region false [
    ⟨.var 3, 6, none, .mov (.c (.bool false))⟩])
 (.seq (.region false [
    ⟨.push, 7, none, .mov (.v 0)⟩,
    ⟨.push, 8, none, .mov (.v 1)⟩,
    ⟨.push, 9, none, .bin false .geq (.s 1) (.s 0)⟩,
    ⟨.push, 10, none, .mov (.s 0)⟩,
    ⟨.push, 11, (some ((.s 0), true)), .mov (.v 0)⟩,
    ⟨.push, 12, (some ((.s 1), true)), .mov (.v 2)⟩,
    ⟨.push, 13, (some ((.s 2), true)), .bin false .leq (.s 1) (.s 0)⟩,
    ⟨.push, 14, none, .pick (.s 3) (.s 0) (.c (.bool false))⟩,
    ⟨.var 3, 6, none, .mov (.s 0)⟩])
 (.ret)), [.t 3]⟩

def ir25_v : List Nat := [0]
def ir25 : AFn := ⟨0, 1, .seq (.region false [
    ⟨.var 0, 0, none, .mov (.c (.nilsl))⟩])
 (.seq (.region false [
    ⟨.push, 1, none, .mkSl 1 (.str []) 5 [(0, (.c (.str [115, 116, 97, 114]))), (1, (.c (.str [111, 98, 115, 101, 114, 118, 101, 114]))), (2, (.c (.str [98, 114, 105, 103, 104, 116]))), (3, (.c (.str [102, 97, 105, 110, 116]))), (4, (.c (.str [116, 119, 105, 110])))]⟩,
    ⟨.var 0, 0, none, .mov (.s 0)⟩])
 (.ret)), [.t 0]⟩


noncomputable def c31 : Ctr := mkF [] ir31 [.bor, .bor, .bor]
noncomputable def c24 : Ctr := mkF [] ir24 [.bor, .bor, .bor]
noncomputable def c23 : Ctr := mkN [] ir23 []
noncomputable def c25 : Ctr := mkN [] ir25 []
noncomputable def c22 : Ctr := mkF [(31, c31)] ir22 [.bor]
noncomputable def c7 : Ctr := mkF [(22, c22), (23, c23)] ir7 [.bor]
noncomputable def c8 : Ctr := mkF [(24, c24), (25, c25)] ir8 [.bor]
noncomputable def c3 : Ctr := mkF [(7, c7), (8, c8)] ir3 [.bor]

theorem s31 : Sound Try.prog 31 c31 := mkF_sound _ rfl snd_nil (by kernel_rfl : chkFn Try.prog 31 ir31 ir31_v = true)
theorem s24 : Sound Try.prog 24 c24 := mkF_sound _ rfl snd_nil (by kernel_rfl : chkFn Try.prog 24 ir24 ir24_v = true)
theorem s23 : Sound Try.prog 23 c23 := mkN_sound _ snd_nil (by kernel_rfl : chkFn Try.prog 23 ir23 ir23_v = true)
theorem s25 : Sound Try.prog 25 c25 := mkN_sound _ snd_nil (by kernel_rfl : chkFn Try.prog 25 ir25 ir25_v = true)
theorem s22 : Sound Try.prog 22 c22 := mkF_sound _ rfl (snd_cons s31 snd_nil) (by kernel_rfl : chkFn Try.prog 22 ir22 ir22_v = true)
theorem s7 : Sound Try.prog 7 c7 := mkF_sound _ rfl (snd_cons s22 (snd_cons s23 snd_nil)) (by kernel_rfl : chkFn Try.prog 7 ir7 ir7_v = true)
theorem s8 : Sound Try.prog 8 c8 := mkF_sound _ rfl (snd_cons s24 (snd_cons s25 snd_nil)) (by kernel_rfl : chkFn Try.prog 8 ir8 ir8_v = true)
theorem s3 : Sound Try.prog 3 c3 := mkF_sound _ rfl (snd_cons s7 (snd_cons s8 snd_nil)) (by kernel_rfl : chkFn Try.prog 3 ir3 ir3_v = true)

theorem M31 : c31.modes = [.bor, .bor, .bor] := rfl
theorem L31 : c31.flat = true := rfl
theorem M24 : c24.modes = [.bor, .bor, .bor] := rfl
theorem L24 : c24.flat = true := rfl
theorem M23 : c23.modes = [] := rfl
theorem L23 : c23.flat = false := rfl
theorem M25 : c25.modes = [] := rfl
theorem L25 : c25.flat = false := rfl
theorem M22 : c22.modes = [.bor] := rfl
theorem L22 : c22.flat = true := rfl
theorem M7 : c7.modes = [.bor] := rfl
theorem L7 : c7.flat = true := rfl
theorem M8 : c8.modes = [.bor] := rfl
theorem L8 : c8.flat = true := rfl
theorem M3 : c3.modes = [.bor] := rfl
theorem L3 : c3.flat = true := rfl
attribute [go_sem] look.eq_1 look.eq_2 M31 L31 M24 L24 M23 L23 M25 L25 M22 L22 M7 L7 M8 L8
def names : List AV := [.str [115, 116, 97, 114], .str [111, 98, 115, 101, 114, 118, 101, 114], .str [98, 114, 105, 103, 104, 116], .str [102, 97, 105, 110, 116], .str [116, 119, 105, 110]]
theorem F31 (a b c : Int) : c31.F [.int .i64 a, .int .i64 b, .int .i64 c] = ⟨true, .bool (decide (b ≤ a) && decide (a ≤ c)), [.any, .any, .any]⟩ :=
  mkF_F 0 (by simp only [go_sem, ir31]) rfl
theorem F24 (a b c : Int) : c24.F [.int .i64 a, .int .i64 b, .int .i64 c] = ⟨true, .bool (decide (b ≤ a) && decide (a ≤ c)), [.any, .any, .any]⟩ :=
  mkF_F 0 (by simp only [go_sem, ir24]) rfl
theorem F23 : c23.F [] = ⟨true, .fresh 1 names, []⟩ :=
  mkN_F 0 (by simp only [go_sem, ir23, names])
theorem F25 : c25.F [] = ⟨true, .fresh 1 names, []⟩ :=
  mkN_F 0 (by simp only [go_sem, ir25, names])
theorem F22 (a : Int) : c22.F [.int .i64 a] = ⟨true, .bool (decide (1 ≤ a) && decide (a ≤ 5)), [.any]⟩ :=
  mkF_F 0 (by simp only [go_sem, ir22, F31]) rfl

/-- The name of a kind. -/
def nm (a : Int) : List UInt8 :=
  if a = 1 then [115, 116, 97, 114] else if a = 2 then [111, 98, 115, 101, 114, 118, 101, 114] else if a = 3 then [98, 114, 105, 103, 104, 116] else if a = 4 then [102, 97, 105, 110, 116] else if a = 5 then [116, 119, 105, 110] else []

theorem F7 (a : Int) : c7.F [.int .i64 a] = ⟨true, .str (nm a), [.any]⟩ := by
  by_cases h : a = 1 ∨ a = 2 ∨ a = 3 ∨ a = 4 ∨ a = 5
  · rcases h with rfl | rfl | rfl | rfl | rfl <;> exact mkF_F 0 (by simp only [go_sem, ir7, F22, F23, names]; rfl) rfl
  · have h1 : (decide (1 ≤ a) && decide (a ≤ 5)) = false := by simp; omega
    have h2 : nm a = [] := by unfold nm; repeat (rw [if_neg (by omega)])
    exact mkF_F 0 (by simp only [go_sem, ir7, F22, F23, h1, h2]) rfl
theorem F8 (a : Int) : c8.F [.int .i64 a] = ⟨true, .str (nm a), [.any]⟩ := by
  by_cases h : a = 1 ∨ a = 2 ∨ a = 3 ∨ a = 4 ∨ a = 5
  · rcases h with rfl | rfl | rfl | rfl | rfl <;> exact mkF_F 0 (by simp only [go_sem, ir8, F24, F25, names]; rfl) rfl
  · have h1 : (decide (1 ≤ a) && decide (a ≤ 5)) = false := by simp; omega
    have h2 : nm a = [] := by unfold nm; repeat (rw [if_neg (by omega)])
    exact mkF_F 0 (by simp only [go_sem, ir8, F24, F25, h1, h2]) rfl
theorem F3 (a : Int) : c3.F [.int .i64 a] = ⟨true, .bool true, [.any]⟩ :=
  mkF_F 0 (by simp only [go_sem, ir3, F7, F8]) rfl

theorem own : ownKnob Try.prog.godebug = none := by kernel_rfl

set_option maxRecDepth 100000 in
theorem lifted (os : Os) (started : os.Started) (H : Type) (enc : TypeId × Value → H) :
    ReturnsInHanded {} Try.checked os 3 .any (Rows.fnExactFaultNameSpec.pre6 enc Try.prog Try.f3 Rows.fnExactFaultNameRow.domain false) (Rows.fnExactFaultNameSpec.post enc Try.prog Try.f3 false true false false) := by
  refine returnsInHanded_of_change (C := Try.checked) own started (by kernel_rfl) Try.func3
    (ChangeSpec.witness6 (enc := enc) (C := Try.checked) false ⟨#[], #[.int .i64 0], []⟩ 8 (by kernel_rfl) (by kernel_rfl) (by kernel_rfl) (by kernel_rfl)) ?_
  intro W base args ds gs before hval0 hW hcnd _
  have hval : ∀ (j : Nat) t v, Try.f3.params[j]? = some t → args[j]? = some v → Value.okWide Try.prog W .any base t v := hval0
  have hW' := hW
  obtain ⟨p, q, hA0, hV, rfl, hfz, hnd⟩ := hW
  have hA : DataW.TrodAll enc Try.prog W 0 (fun _ => true) true Try.f3.params.toList args.toList ds p := hA0
  rw [Try.params3] at hA hval
  obtain ⟨v0, vs0, d0, ds0, p0, q0, hargs, rfl, rfl, h0, r0⟩ := trodAll_cons hA
  obtain ⟨rfl, rfl, rfl⟩ := trodAll_nil r0
  obtain rfl : args = #[v0] := by cases args; simp_all
  obtain ⟨rfl, rfl⟩ := trodVars_none hV
  obtain ⟨a0, rfl, rfl, rfl, w0⟩ := open_int Try.underlying2 (hval 0 2 v0 rfl rfl) h0
  clear hA0 hval0
  simp only [List.append_nil] at hW'
  refine (law_call s3 Try.func3 rfl (by decide +kernel) rfl rfl rfl (vargs := #[.int .i64 a0]) (fun j hj => by
    have : j = 0 := by simpa using hj
    subst this; exact VR.int) (F3 a0)).mono fun e W' ⟨he, hg⟩ => ?_
  subst he
  exact ⟨_, rfl, post_kept (pa := []) (pv := []) hW' hg (fun _ _ _ => (trodAll_cons_mk (shut_bool Try.underlying4 _) trodAll_mk0)) (fun sp _ => (trodAll_cons_mk (shut_int Try.underlying2 w0) trodAll_mk0)) (fun _ _ => rfl) rfl
    (ok_one (by kernel_rfl) rfl (okWide_bool_mk Try.underlying4 _))⟩

theorem over : Rows.fnExactFaultNameRow.holds Try.pinned (OpenSpec.ofChange Rows.fnExactFaultNameSpec) :=
  OpenClaim.holds_of_wide 3 Try.f3 rfl rfl rfl rfl rfl rfl rfl ⟨rfl, rfl, rfl, rfl, rfl⟩ rfl rfl rfl rfl rfl (by kernel_rfl) Try.func3 (by kernel_rfl)
    (of_decide_eq_true (by kernel_rfl)) (by unfold Func.isWrapper; first | (rw [if_pos (by decide +kernel)]; kernel_rfl) | (rw [if_neg (by decide +kernel)]; exact ⟨rfl, rfl⟩))
    (fun os started H enc _ => lifted os started H enc)

/-- ████ THE STATEMENT ████ -/
theorem proved : Rows.FnExactFaultNameSaid :=
  over

end Go.Proofs.Ytkapngmboghaeaa.fnExactFaultName
