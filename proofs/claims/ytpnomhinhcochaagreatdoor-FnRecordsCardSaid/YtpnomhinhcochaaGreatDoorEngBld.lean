/- strings.Builder at this translation: what is written and read, as the walk takes it. No condition. -/
import Derived.Test.YtpnomhinhcochaaGreatDoorRows
import Derived.Test.YtpnomhinhcochaaGreatDoorEngCall
import Derived.Shelf.Strings.Builder1
import Derived.Shelf.Strings.OnBuilder
namespace Go.Proofs.YtpnomhinhcochaaGreatDoor
open Go Go.RowKit
set_option linter.unusedVariables false
set_option linter.unusedSimpArgs false
set_option maxRecDepth 100000

/-- The numbers that the library's contracts of a builder go by, at this translation. -/
def bldR : Go.Shelf.Ren := ⟨fun
 | 166 => 23
 | 167 => 25
 | 169 => 26
 | 240 => 44
 | 276 => 63
 | n => n, fun
 | 0 => 0
 | 3 => 3
 | 4 => 4
 | 5 => 5
 | 9 => 9
 | 20 => 20
 | 37 => 22
 | 70 => 46
 | 72 => 48
 | 75 => 50
 | 80 => 53
 | 127 => 80
 | 164 => 92
 | n => n, fun | n => n⟩

theorem bldL166 : Go.Proofs.Lays.n166 Tryz.prog bldR where
 mixed := by kernel_rfl
 f166 := Tryz.func23.trans (congrArg some (by kernel_rfl))
 f240 := Tryz.func44.trans (congrArg some (by kernel_rfl))
 f276 := Tryz.func63.trans (congrArg some (by kernel_rfl))
 t0 := Tryz.underlying0
 a0 := Tryz.isAgg0
 z0 := Tryz.sizeOf0
 v0 := Tryz.zeroValue0
 t3 := Tryz.underlying3
 a3 := Tryz.isAgg3
 z3 := Tryz.sizeOf3
 v3 := Tryz.zeroValue3
 t4 := Tryz.underlying4
 a4 := Tryz.isAgg4
 z4 := Tryz.sizeOf4
 v4 := Tryz.zeroValue4
 t9 := Tryz.underlying9
 a9 := Tryz.isAgg9
 z9 := Tryz.sizeOf9
 v9 := Tryz.zeroValue9
 t20 := Tryz.underlying20
 a20 := Tryz.isAgg20
 z20 := Tryz.sizeOf20
 v20 := Tryz.zeroValue20
 t37 := Tryz.underlying22
 a37 := Tryz.isAgg22
 z37 := Tryz.sizeOf22
 v37 := Tryz.zeroValue22
 t70 := Tryz.underlying46
 a70 := Tryz.isAgg46
 z70 := Tryz.sizeOf46
 v70 := Tryz.zeroValue46
 t72 := Tryz.underlying48
 a72 := Tryz.isAgg48
 z72 := Tryz.sizeOf48
 v72 := Tryz.zeroValue48
 t75 := Tryz.underlying50
 a75 := Tryz.isAgg50
 z75 := Tryz.sizeOf50
 v75 := Tryz.zeroValue50
 t164 := Tryz.underlying92
 a164 := Tryz.isAgg92
 z164 := Tryz.sizeOf92
 v164 := Tryz.zeroValue92

theorem bldL167 : Go.Proofs.Lays.n167 Tryz.prog bldR where
 mixed := by kernel_rfl
 f167 := Tryz.func25.trans (congrArg some (by kernel_rfl))
 f240 := Tryz.func44.trans (congrArg some (by kernel_rfl))
 f276 := Tryz.func63.trans (congrArg some (by kernel_rfl))
 t0 := Tryz.underlying0
 a0 := Tryz.isAgg0
 z0 := Tryz.sizeOf0
 v0 := Tryz.zeroValue0
 t4 := Tryz.underlying4
 a4 := Tryz.isAgg4
 z4 := Tryz.sizeOf4
 v4 := Tryz.zeroValue4
 t5 := Tryz.underlying5
 a5 := Tryz.isAgg5
 z5 := Tryz.sizeOf5
 v5 := Tryz.zeroValue5
 t9 := Tryz.underlying9
 a9 := Tryz.isAgg9
 z9 := Tryz.sizeOf9
 v9 := Tryz.zeroValue9
 t20 := Tryz.underlying20
 a20 := Tryz.isAgg20
 z20 := Tryz.sizeOf20
 v20 := Tryz.zeroValue20
 t37 := Tryz.underlying22
 a37 := Tryz.isAgg22
 z37 := Tryz.sizeOf22
 v37 := Tryz.zeroValue22
 t70 := Tryz.underlying46
 a70 := Tryz.isAgg46
 z70 := Tryz.sizeOf46
 v70 := Tryz.zeroValue46
 t72 := Tryz.underlying48
 a72 := Tryz.isAgg48
 z72 := Tryz.sizeOf48
 v72 := Tryz.zeroValue48
 t75 := Tryz.underlying50
 a75 := Tryz.isAgg50
 z75 := Tryz.sizeOf50
 v75 := Tryz.zeroValue50
 t164 := Tryz.underlying92
 a164 := Tryz.isAgg92
 z164 := Tryz.sizeOf92
 v164 := Tryz.zeroValue92

theorem bldL169 : Go.Proofs.Lays.n169 Tryz.prog bldR where
 mixed := by kernel_rfl
 f169 := Tryz.func26.trans (congrArg some (by kernel_rfl))
 t0 := Tryz.underlying0
 a0 := Tryz.isAgg0
 z0 := Tryz.sizeOf0
 v0 := Tryz.zeroValue0
 t3 := Tryz.underlying3
 a3 := Tryz.isAgg3
 z3 := Tryz.sizeOf3
 v3 := Tryz.zeroValue3
 t9 := Tryz.underlying9
 a9 := Tryz.isAgg9
 z9 := Tryz.sizeOf9
 v9 := Tryz.zeroValue9
 t37 := Tryz.underlying22
 a37 := Tryz.isAgg22
 z37 := Tryz.sizeOf22
 v37 := Tryz.zeroValue22
 t70 := Tryz.underlying46
 a70 := Tryz.isAgg46
 z70 := Tryz.sizeOf46
 v70 := Tryz.zeroValue46
 t72 := Tryz.underlying48
 a72 := Tryz.isAgg48
 z72 := Tryz.sizeOf48
 v72 := Tryz.zeroValue48
 t127 := Tryz.underlying80
 a127 := Tryz.isAgg80
 z127 := Tryz.sizeOf80
 v127 := Tryz.zeroValue80


theorem bldX : Builder.Extra Tryz.prog bldR where
  sizeBuilder := by kernel_rfl
  liesBuilder := by kernel_rfl
  t5 := Tryz.underlying5
  a5 := Tryz.isAgg5
  z5 := Tryz.sizeOf5
  v5 := Tryz.zeroValue5
  infoByte := by kernel_rfl
  cellsByte := by kernel_rfl
  sizeByte := by kernel_rfl
  neB5 := by decide

/-- The builder in block b holds the bytes l. -/
def Bld (b : Nat) (l : List UInt8) (w : World) : Prop := Lib.IsBuilder 48 5 b b (Lib.byteCells l) w

theorem Bld.new (w : World) : Bld w.heap.size [] (w.alloc (.cells #[.pointer none, .slice none 0 0] 48)) := Lib.fresh_isBuilder _ _ w

theorem Bld.lt {b : Nat} {l : List UInt8} {w : World} (h : Bld b l w) : b < w.heap.size := by
  rcases h with h | h <;> exact h.lt

theorem Bld.same {b : Nat} {l : List UInt8} {w w' : World} (h : Bld b l w) (hs : Same (fun _ => False) w w') : Bld b l w' := by
  have lt : ∀ {b : Nat} {o : Obj}, w.heap[b]? = some o → w'.heap[b]? = some o := fun {b o} hb => by
    have : b < w.heap.size := by
      rcases Nat.lt_or_ge b w.heap.size with h' | h'
      · exact h'
      · rw [Array.getElem?_eq_none h'] at hb; cases hb
    rw [hs.block b this (fun c => c), hb]
  have one : ∀ p, Lib.BuilderAt 48 5 b b p (Lib.byteCells l) w → Lib.BuilderAt 48 5 b b p (Lib.byteCells l) w' := by
    rintro p ⟨h1, v, h2, h3, h4⟩
    refine ⟨h1, v, lt h2, ⟨h3.1, ?_⟩, h4⟩
    rcases h3.2 with h5 | ⟨g, cap, cur, h5, h6, h7, h8⟩
    · exact .inl h5
    · exact .inr ⟨g, cap, cur, h5, h6, lt h7, h8⟩
  rcases h with h | h
  · exact .inl (one _ h)
  · exact .inr (one _ h)

theorem Bld.below {b : Nat} {l : List UInt8} {w w' : World} (h : Bld b l w) (hs : Below w.heap.size w w') : Bld b l w' :=
  h.same ⟨hs.os, hs.tape, hs.output, hs.size, fun k hk _ => hs.block k hk⟩

theorem Bld.drew {b : Nat} {l : List UInt8} {w : World} (h : Bld b l w) : Bld b l w.drew := h.same (Same.drew _ _)
theorem Bld.alloc {b : Nat} {l : List UInt8} {w : World} (h : Bld b l w) (o : Obj) : Bld b l (w.alloc o) := h.same (Same.alloc _ _ _)

theorem bld_str {b : Nat} {l s : List UInt8} {w : World} (h : Bld b l w) (hl : l.length + s.length ≤ 140737488355328) {sb : ByteArray} (hs : sb = ⟨s.toArray⟩) :
   Calls Tryz.prog 23 #[.pointer (some ⟨b, 0, none⟩), .string sb] w fun e w' => e = .returned (.tuple #[.int .i64 s.length, .nilIface]) ∧ Bld b (l ++ s) w' ∧ Below b w w' := by
 subst hs
 refine (Any.Builder_WriteString bldL166 bldX b b (Lib.byteCells l) ⟨s.toArray⟩ w h (by rw [Lib.byteCells_length]; exact hl) (Nat.le_of_lt h.lt)).mono ?_
 rintro e w' ⟨rfl, h1, h2⟩
 refine ⟨rfl, ?_, h2⟩
 unfold Bld
 rw [Lib.byteCells_append]
 exact .inr h1

theorem bld_byte {b : Nat} {l : List UInt8} (c : UInt8) {w : World} (h : Bld b l w) (hl : l.length + 1 ≤ 140737488355328) {n : Int} (hn : n = (c.toNat : Int)) :
   Calls Tryz.prog 25 #[.pointer (some ⟨b, 0, none⟩), .int .u8 n] w fun e w' => e = .returned .nilIface ∧ Bld b (l ++ [c]) w' ∧ Below b w w' := by
 subst hn
 refine (Any.Builder_WriteByte bldL167 bldX b b (Lib.byteCells l) (c.toNat : Int) w h (by rw [Lib.byteCells_length]; exact hl) (Nat.le_of_lt h.lt)).mono ?_
 rintro e w' ⟨rfl, h1, h2⟩
 refine ⟨rfl, ?_, h2⟩
 unfold Bld
 rw [Lib.byteCells_append]
 exact .inr h1


theorem bld_string {b : Nat} {l : List UInt8} {w : World} (h : Bld b l w) :
    Calls Tryz.prog 26 #[.pointer (some ⟨b, 0, none⟩)] w fun e w' => e = .returned (.string ⟨l.toArray⟩) ∧ Below b w w' :=
  Any.Builder_String_any bldL169 bldX b b l w h (Nat.le_of_lt h.lt)

end Go.Proofs.YtpnomhinhcochaaGreatDoor
