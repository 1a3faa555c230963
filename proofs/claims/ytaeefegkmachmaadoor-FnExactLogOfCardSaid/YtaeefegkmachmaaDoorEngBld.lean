/- strings.Builder at this translation: what is written and read, as the walk takes it. No condition. -/
import Derived.Test.YtaeefegkmachmaaDoorRows
import Derived.Test.YtaeefegkmachmaaDoorEngCall
import Derived.Shelf.Strings.Builder1
import Derived.Shelf.Strings.OnBuilder
namespace Go.Proofs.YtaeefegkmachmaaDoor
open Go Go.RowKit
set_option linter.unusedVariables false
set_option linter.unusedSimpArgs false
set_option maxRecDepth 100000

/-- The numbers that the library's contracts of a builder go by, at this translation. -/
def bldR : Go.Shelf.Ren := ⟨fun
 | 166 => 17
 | 169 => 20
 | 170 => 19
 | 240 => 32
 | 276 => 37
 | n => n, fun
 | 0 => 0
 | 3 => 3
 | 4 => 4
 | 5 => 5
 | 9 => 9
 | 20 => 20
 | 37 => 41
 | 70 => 40
 | 72 => 43
 | 75 => 46
 | 80 => 51
 | 127 => 61
 | 164 => 63
 | n => n, fun | n => n⟩

theorem bldL166 : Go.Proofs.Lays.n166 Tryd.prog bldR where
 mixed := by kernel_rfl
 f166 := Tryd.func17.trans (congrArg some (by kernel_rfl))
 f240 := Tryd.func32.trans (congrArg some (by kernel_rfl))
 f276 := Tryd.func37.trans (congrArg some (by kernel_rfl))
 t0 := Tryd.underlying0
 a0 := Tryd.isAgg0
 z0 := Tryd.sizeOf0
 v0 := Tryd.zeroValue0
 t3 := Tryd.underlying3
 a3 := Tryd.isAgg3
 z3 := Tryd.sizeOf3
 v3 := Tryd.zeroValue3
 t4 := Tryd.underlying4
 a4 := Tryd.isAgg4
 z4 := Tryd.sizeOf4
 v4 := Tryd.zeroValue4
 t9 := Tryd.underlying9
 a9 := Tryd.isAgg9
 z9 := Tryd.sizeOf9
 v9 := Tryd.zeroValue9
 t20 := Tryd.underlying20
 a20 := Tryd.isAgg20
 z20 := Tryd.sizeOf20
 v20 := Tryd.zeroValue20
 t37 := Tryd.underlying41
 a37 := Tryd.isAgg41
 z37 := Tryd.sizeOf41
 v37 := Tryd.zeroValue41
 t70 := Tryd.underlying40
 a70 := Tryd.isAgg40
 z70 := Tryd.sizeOf40
 v70 := Tryd.zeroValue40
 t72 := Tryd.underlying43
 a72 := Tryd.isAgg43
 z72 := Tryd.sizeOf43
 v72 := Tryd.zeroValue43
 t75 := Tryd.underlying46
 a75 := Tryd.isAgg46
 z75 := Tryd.sizeOf46
 v75 := Tryd.zeroValue46
 t164 := Tryd.underlying63
 a164 := Tryd.isAgg63
 z164 := Tryd.sizeOf63
 v164 := Tryd.zeroValue63


theorem bldL169 : Go.Proofs.Lays.n169 Tryd.prog bldR where
 mixed := by kernel_rfl
 f169 := Tryd.func20.trans (congrArg some (by kernel_rfl))
 t0 := Tryd.underlying0
 a0 := Tryd.isAgg0
 z0 := Tryd.sizeOf0
 v0 := Tryd.zeroValue0
 t3 := Tryd.underlying3
 a3 := Tryd.isAgg3
 z3 := Tryd.sizeOf3
 v3 := Tryd.zeroValue3
 t9 := Tryd.underlying9
 a9 := Tryd.isAgg9
 z9 := Tryd.sizeOf9
 v9 := Tryd.zeroValue9
 t37 := Tryd.underlying41
 a37 := Tryd.isAgg41
 z37 := Tryd.sizeOf41
 v37 := Tryd.zeroValue41
 t70 := Tryd.underlying40
 a70 := Tryd.isAgg40
 z70 := Tryd.sizeOf40
 v70 := Tryd.zeroValue40
 t72 := Tryd.underlying43
 a72 := Tryd.isAgg43
 z72 := Tryd.sizeOf43
 v72 := Tryd.zeroValue43
 t127 := Tryd.underlying61
 a127 := Tryd.isAgg61
 z127 := Tryd.sizeOf61
 v127 := Tryd.zeroValue61

theorem bldL170 : Go.Proofs.Lays.n170 Tryd.prog bldR where
 mixed := by kernel_rfl
 f170 := Tryd.func19.trans (congrArg some (by kernel_rfl))
 t0 := Tryd.underlying0
 a0 := Tryd.isAgg0
 z0 := Tryd.sizeOf0
 v0 := Tryd.zeroValue0
 t3 := Tryd.underlying3
 a3 := Tryd.isAgg3
 z3 := Tryd.sizeOf3
 v3 := Tryd.zeroValue3
 t37 := Tryd.underlying41
 a37 := Tryd.isAgg41
 z37 := Tryd.sizeOf41
 v37 := Tryd.zeroValue41
 t70 := Tryd.underlying40
 a70 := Tryd.isAgg40
 z70 := Tryd.sizeOf40
 v70 := Tryd.zeroValue40
 t72 := Tryd.underlying43
 a72 := Tryd.isAgg43
 z72 := Tryd.sizeOf43
 v72 := Tryd.zeroValue43

theorem bldX : Builder.Extra Tryd.prog bldR where
  sizeBuilder := by kernel_rfl
  liesBuilder := by kernel_rfl
  t5 := Tryd.underlying5
  a5 := Tryd.isAgg5
  z5 := Tryd.sizeOf5
  v5 := Tryd.zeroValue5
  infoByte := by kernel_rfl
  cellsByte := by kernel_rfl
  sizeByte := by kernel_rfl
  neB5 := by decide

/-- The builder in block b holds the bytes l. -/
def Bld (b : Nat) (l : List UInt8) (w : World) : Prop := Lib.IsBuilder 43 5 b b (Lib.byteCells l) w

theorem Bld.new (w : World) : Bld w.heap.size [] (w.alloc (.cells #[.pointer none, .slice none 0 0] 43)) := Lib.fresh_isBuilder _ _ w

theorem Bld.lt {b : Nat} {l : List UInt8} {w : World} (h : Bld b l w) : b < w.heap.size := by
  rcases h with h | h <;> exact h.lt

theorem Bld.same {b : Nat} {l : List UInt8} {w w' : World} (h : Bld b l w) (hs : Same (fun _ => False) w w') : Bld b l w' := by
  have lt : ∀ {b : Nat} {o : Obj}, w.heap[b]? = some o → w'.heap[b]? = some o := fun {b o} hb => by
    have : b < w.heap.size := by
      rcases Nat.lt_or_ge b w.heap.size with h' | h'
      · exact h'
      · rw [Array.getElem?_eq_none h'] at hb; cases hb
    rw [hs.block b this (fun c => c), hb]
  have one : ∀ p, Lib.BuilderAt 43 5 b b p (Lib.byteCells l) w → Lib.BuilderAt 43 5 b b p (Lib.byteCells l) w' := by
    rintro p ⟨h1, v, h2, h3, h4⟩
    refine ⟨h1, v, lt h2, ⟨h3.1, ?_⟩, h4⟩
    rcases h3.2 with h5 | ⟨g, cap, cur, h5, h6, h7, h8⟩
    · exact .inl h5
    · exact .inr ⟨g, cap, cur, h5, h6, lt h7, h8⟩
  rcases h with h | h
  · exact .inl (one _ h)
  · exact .inr (one _ h)

theorem Bld.below {b : Nat} {l : List UInt8} {w w' : World} (h : Bld b l w) (hs : Below w.heap.size w w') : Bld b l w' :=
  h.same ⟨hs.os, hs.tape, hs.output, hs.size, fun k hk _ => hs.block k hk⟩

theorem Bld.drew {b : Nat} {l : List UInt8} {w : World} (h : Bld b l w) : Bld b l w.drew := h.same (Same.drew _ _)
theorem Bld.alloc {b : Nat} {l : List UInt8} {w : World} (h : Bld b l w) (o : Obj) : Bld b l (w.alloc o) := h.same (Same.alloc _ _ _)

theorem bld_str {b : Nat} {l s : List UInt8} {w : World} (h : Bld b l w) (hl : l.length + s.length ≤ 140737488355328) {sb : ByteArray} (hs : sb = ⟨s.toArray⟩) :
   Calls Tryd.prog 17 #[.pointer (some ⟨b, 0, none⟩), .string sb] w fun e w' => e = .returned (.tuple #[.int .i64 s.length, .nilIface]) ∧ Bld b (l ++ s) w' ∧ Below b w w' := by
 subst hs
 refine (Any.Builder_WriteString bldL166 bldX b b (Lib.byteCells l) ⟨s.toArray⟩ w h (by rw [Lib.byteCells_length]; exact hl) (Nat.le_of_lt h.lt)).mono ?_
 rintro e w' ⟨rfl, h1, h2⟩
 refine ⟨rfl, ?_, h2⟩
 unfold Bld
 rw [Lib.byteCells_append]
 exact .inr h1


theorem bld_len {b : Nat} {l : List UInt8} {w : World} (h : Bld b l w) :
   Calls Tryd.prog 19 #[.pointer (some ⟨b, 0, none⟩)] w fun e w' => e = .returned (.int .i64 l.length) ∧ w' = w := by
 have := Any.Builder_Len bldL170 b b (Lib.byteCells l) w h
 rw [Lib.byteCells_length] at this
 exact this

theorem bld_string {b : Nat} {l : List UInt8} {w : World} (h : Bld b l w) :
    Calls Tryd.prog 20 #[.pointer (some ⟨b, 0, none⟩)] w fun e w' => e = .returned (.string ⟨l.toArray⟩) ∧ Below b w w' :=
  Any.Builder_String_any bldL169 bldX b b l w h (Nat.le_of_lt h.lt)

end Go.Proofs.YtaeefegkmachmaaDoor
