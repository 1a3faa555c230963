/- Codes and contracts of the functions that DA reaches, and that their typed forms say what they do. No condition. -/
import Derived.Test.YtmpmmodbigjdgaaDoorDAKa
import Derived.Test.YtmpmmodbigjdgaaDoorRows
import Derived.WalkKit
namespace Go.Proofs.YtmpmmodbigjdgaaDoor
open Go Go.RowKit
set_option linter.unusedVariables false
set_option linter.unusedSimpArgs false
set_option maxRecDepth 10000

def ir3_v : List Nat := [0, 2, 3, 4, 5, 6, 7, 8, 9, 10, 11, 12, 13, 14, 15, 16, 17, 18, 19, 20, 21, 22, 23, 24, 25, 26, 27, 28, 29, 30, 31, 32]
def ir3 : AFn := ⟨1, 32, .seq (.region false [
    ⟨.var 1, 2, none, .mov (.c (.bool false))⟩])
 (.seq (.test false [
    ⟨.push, 33, none, .mov (.v 0)⟩,
    ⟨.push, 34, none, .call 5 [(.s 0)]⟩] (.s 0)
  (.seq (.region false [
      ⟨.var 1, 2, none, .mov (.c (.bool true))⟩])
   (.ret))
  (.skip))
 (.seq (.region false [
    ⟨.push, 35, none, .mov (.v 0)⟩,
    ⟨.push, 36, none, .call 6 [(.s 0)]⟩,
    ⟨.var 2, 3, none, .mov (.s 0)⟩])
 (.seq (.region false [
    ⟨.push, 38, none, .mov (.v 2)⟩,
    ⟨.push, 39, none, .call 7 [(.s 0)]⟩,
    ⟨.push, 37, none, .mov (.s 0)⟩,
    ⟨.push, 40, none, .ext (.s 0) 0⟩,
    ⟨.push, 41, none, .ext (.s 1) 1⟩,
    ⟨.var 3, 4, none, .alloc (.agg [.int .i64 (0), .int .i64 (0), .int .i64 (0)])⟩,
    ⟨.no, 0, none, .store 3 (.v 3) (.s 1)⟩,
    ⟨.var 4, 5, none, .mov (.s 0)⟩])
 (.seq (.region false [
    ⟨.push, 43, none, .mov (.v 2)⟩,
    ⟨.push, 44, none, .call 8 [(.s 0)]⟩,
    ⟨.push, 42, none, .mov (.s 0)⟩,
    ⟨.push, 45, none, .ext (.s 0) 0⟩,
    ⟨.push, 46, none, .ext (.s 1) 1⟩,
    ⟨.var 5, 6, none, .alloc (.agg [.int .i64 (0), .int .i64 (0), .int .i64 (0)])⟩,
    ⟨.no, 0, none, .store 3 (.v 5) (.s 1)⟩,
    ⟨.var 6, 7, none, .mov (.s 0)⟩])
 (.seq (.region false [
    ⟨.push, 47, none, .mov (.v 0)⟩,
    ⟨.push, 48, none, .call 9 [(.s 0)]⟩,
    ⟨.var 7, 8, none, .alloc (.agg [.int .i64 (0), .int .i64 (0), .int .i64 (0)])⟩,
    ⟨.no, 0, none, .store 3 (.v 7) (.s 0)⟩])
 (.seq (.region false [
    ⟨.push, 50, none, .load true 3 (.v 7)⟩,
    ⟨.push, 51, none, .call 10 [(.s 0)]⟩,
    ⟨.push, 49, none, .mov (.s 0)⟩,
    ⟨.push, 52, none, .ext (.s 0) 0⟩,
    ⟨.push, 53, none, .ext (.s 1) 1⟩,
    ⟨.var 8, 9, none, .mov (.s 1)⟩,
    ⟨.var 9, 10, none, .mov (.s 0)⟩])
 (.seq (.region false [
    ⟨.push, 55, none, .load true 3 (.v 7)⟩,
    ⟨.push, 56, none, .call 11 [(.s 0)]⟩,
    ⟨.push, 54, none, .mov (.s 0)⟩,
    ⟨.push, 57, none, .ext (.s 0) 0⟩,
    ⟨.push, 58, none, .ext (.s 1) 1⟩,
    ⟨.var 10, 11, none, .mov (.s 1)⟩,
    ⟨.var 11, 12, none, .mov (.s 0)⟩])
 (.seq (.region false [
    ⟨.push, 59, none, .mov (.v 0)⟩,
    ⟨.push, 60, none, .call 12 [(.s 0)]⟩,
    ⟨.var 12, 13, none, .mov (.s 0)⟩])
 (.seq (.region false [
    ⟨.push, 62, none, .mov (.v 12)⟩,
    ⟨.push, 63, none, .call 13 [(.s 0)]⟩,
    ⟨.push, 61, none, .mov (.s 0)⟩,
    ⟨.push, 64, none, .ext (.s 0) 0⟩,
    ⟨.push, 65, none, .ext (.s 1) 1⟩,
    ⟨.var 13, 14, none, .mov (.s 1)⟩,
    ⟨.var 14, 15, none, .mov (.s 0)⟩])
 (.seq (.region false [
    ⟨.push, 67, none, .mov (.v 12)⟩,
    ⟨.push, 68, none, .call 14 [(.s 0)]⟩,
    ⟨.push, 66, none, .mov (.s 0)⟩,
    ⟨.push, 69, none, .ext (.s 0) 0⟩,
    ⟨.push, 70, none, .ext (.s 1) 1⟩,
    ⟨.var 15, 16, none, .mov (.s 1)⟩,
    ⟨.var 16, 17, none, .mov (.s 0)⟩])
 (.seq (.region false [
    ⟨.push, 71, none, .mov (.v 0)⟩,
    ⟨.push, 72, none, .call 15 [(.s 0)]⟩,
    ⟨.var 17, 18, none, .alloc (.agg [.int .i64 (0), .int .i64 (0), .int .i64 (0)])⟩,
    ⟨.no, 0, none, .store 3 (.v 17) (.s 0)⟩])
 (.seq (.region false [
    ⟨.push, 73, none, .load true 3 (.v 17)⟩,
    ⟨.push, 74, none, .call 16 [(.s 0)]⟩,
    ⟨.var 18, 19, none, .mov (.s 0)⟩])
 (.seq (.region false [
    ⟨.push, 76, none, .mov (.v 18)⟩,
    ⟨.push, 77, none, .call 17 [(.s 0)]⟩,
    ⟨.push, 75, none, .mov (.s 0)⟩,
    ⟨.push, 78, none, .ext (.s 0) 0⟩,
    ⟨.push, 79, none, .ext (.s 1) 1⟩,
    ⟨.var 19, 20, none, .alloc (.agg [.int .i64 (0), .int .i64 (0), .int .i64 (0)])⟩,
    ⟨.no, 0, none, .store 3 (.v 19) (.s 1)⟩,
    ⟨.var 20, 21, none, .mov (.s 0)⟩])
 (.seq (.region false [
    ⟨.push, 80, none, .mov (.v 0)⟩,
    ⟨.push, 81, none, .call 18 [(.s 0)]⟩,
    ⟨.var 21, 22, none, .mov (.s 0)⟩])
 (.seq (.region false [
    ⟨.push, 83, none, .mov (.v 21)⟩,
    ⟨.push, 84, none, .call 17 [(.s 0)]⟩,
    ⟨.push, 82, none, .mov (.s 0)⟩,
    ⟨.push, 85, none, .ext (.s 0) 0⟩,
    ⟨.push, 86, none, .ext (.s 1) 1⟩,
    ⟨.var 22, 23, none, .alloc (.agg [.int .i64 (0), .int .i64 (0), .int .i64 (0)])⟩,
    ⟨.no, 0, none, .store 3 (.v 22) (.s 1)⟩,
    ⟨.var 23, 24, none, .mov (.s 0)⟩])
 (.seq (.region false [
    ⟨.push, 88, none, .mov (.v 21)⟩,
    ⟨.push, 89, none, .call 19 [(.s 0)]⟩,
    ⟨.push, 87, none, .mov (.s 0)⟩,
    ⟨.push, 90, none, .ext (.s 0) 0⟩,
    ⟨.push, 91, none, .ext (.s 1) 1⟩,
    ⟨.var 24, 25, none, .alloc (.agg [.int .i64 (0), .int .i64 (0), .int .i64 (0)])⟩,
    ⟨.no, 0, none, .store 3 (.v 24) (.s 1)⟩,
    ⟨.var 25, 26, none, .mov (.s 0)⟩])
 (.seq (.anyo 65 [
    ⟨.slot 0, 92, none, .mov (.v 4)⟩,
    ⟨.slot 1, 93, none, .mov (.v 6)⟩,
    ⟨.slot 2, 94, none, .bin false .neq (.s 0) (.s 1)⟩,
    ⟨.slot 3, 95, none, .mov (.s 2)⟩,
    ⟨.slot 4, 96, (some ((.s 3), false)), .load true 3 (.v 3)⟩,
    ⟨.slot 5, 97, (some ((.s 3), false)), .load true 3 (.v 5)⟩,
    ⟨.slot 6, 98, (some ((.s 3), false)), .eqA true [1, 1, 1] (.s 4) (.s 5)⟩,
    ⟨.slot 7, 99, none, .pick (.s 3) (.c (.bool true)) (.s 6)⟩,
    ⟨.slot 8, 100, none, .mov (.s 7)⟩,
    ⟨.slot 9, 101, (some ((.s 8), false)), .mov (.v 9)⟩,
    ⟨.slot 10, 102, (some ((.s 8), false)), .mov (.v 11)⟩,
    ⟨.slot 11, 103, (some ((.s 8), false)), .bin false .neq (.s 9) (.s 10)⟩,
    ⟨.slot 12, 104, none, .pick (.s 8) (.c (.bool true)) (.s 11)⟩,
    ⟨.slot 13, 105, none, .mov (.s 12)⟩,
    ⟨.slot 14, 106, (some ((.s 13), false)), .mov (.v 8)⟩,
    ⟨.slot 15, 107, (some ((.s 13), false)), .mov (.v 10)⟩,
    ⟨.slot 16, 108, (some ((.s 13), false)), .bin false .neq (.s 14) (.s 15)⟩,
    ⟨.slot 17, 109, none, .pick (.s 13) (.c (.bool true)) (.s 16)⟩,
    ⟨.slot 18, 110, none, .mov (.s 17)⟩,
    ⟨.slot 19, 111, (some ((.s 18), false)), .mov (.v 14)⟩,
    ⟨.slot 20, 112, (some ((.s 18), false)), .mov (.v 16)⟩,
    ⟨.slot 21, 113, (some ((.s 18), false)), .bin false .neq (.s 19) (.s 20)⟩,
    ⟨.slot 22, 114, none, .pick (.s 18) (.c (.bool true)) (.s 21)⟩,
    ⟨.slot 23, 115, none, .mov (.s 22)⟩,
    ⟨.slot 24, 116, (some ((.s 23), false)), .mov (.v 13)⟩,
    ⟨.slot 25, 117, (some ((.s 23), false)), .mov (.v 15)⟩,
    ⟨.slot 26, 118, (some ((.s 23), false)), .bin false .neq (.s 24) (.s 25)⟩,
    ⟨.slot 27, 119, none, .pick (.s 23) (.c (.bool true)) (.s 26)⟩,
    ⟨.slot 28, 120, none, .mov (.s 27)⟩,
    ⟨.slot 29, 121, (some ((.s 28), false)), .mov (.v 18)⟩,
    ⟨.slot 30, 122, (some ((.s 28), false)), .load true 3 (.v 17)⟩,
    ⟨.slot 31, 123, (some ((.s 28), false)), .call 20 [(.s 30)]⟩,
    ⟨.slot 32, 124, (some ((.s 28), false)), .bin false .neq (.s 29) (.s 31)⟩,
    ⟨.slot 33, 125, none, .pick (.s 28) (.c (.bool true)) (.s 32)⟩,
    ⟨.slot 34, 126, none, .mov (.s 33)⟩,
    ⟨.slot 35, 127, (some ((.s 34), false)), .mov (.v 20)⟩,
    ⟨.slot 36, 128, (some ((.s 34), false)), .mov (.v 18)⟩,
    ⟨.slot 37, 129, (some ((.s 34), false)), .bin false .neq (.s 36) (.c (.str []))⟩,
    ⟨.slot 38, 130, (some ((.s 34), false)), .bin true .neq (.s 35) (.s 37)⟩,
    ⟨.slot 39, 131, none, .pick (.s 34) (.c (.bool true)) (.s 38)⟩,
    ⟨.slot 40, 132, none, .mov (.s 39)⟩,
    ⟨.slot 41, 133, (some ((.s 40), false)), .mov (.v 20)⟩,
    ⟨.slot 42, 134, (some ((.s 40), false)), .mov (.s 41)⟩,
    ⟨.slot 43, 135, (some ((.s 42), true)), .load true 3 (.v 19)⟩,
    ⟨.slot 44, 136, (some ((.s 42), true)), .load true 3 (.v 17)⟩,
    ⟨.slot 45, 137, (some ((.s 42), true)), .eqA true [1, 1, 1] (.s 43) (.s 44)⟩,
    ⟨.slot 46, 138, (some ((.s 40), false)), .pick (.s 42) (.s 45) (.c (.bool false))⟩,
    ⟨.slot 47, 139, none, .pick (.s 40) (.c (.bool true)) (.s 46)⟩,
    ⟨.slot 48, 140, none, .mov (.s 47)⟩,
    ⟨.slot 49, 141, (some ((.s 48), false)), .mov (.v 23)⟩,
    ⟨.slot 50, 142, (some ((.s 48), false)), .mov (.v 25)⟩,
    ⟨.slot 51, 143, (some ((.s 48), false)), .bin true .neq (.s 49) (.s 50)⟩,
    ⟨.slot 52, 144, none, .pick (.s 48) (.c (.bool true)) (.s 51)⟩,
    ⟨.slot 53, 145, none, .mov (.s 52)⟩,
    ⟨.slot 54, 146, (some ((.s 53), false)), .load true 3 (.v 22)⟩,
    ⟨.slot 55, 147, (some ((.s 53), false)), .load true 3 (.v 24)⟩,
    ⟨.slot 56, 148, (some ((.s 53), false)), .eqA true [1, 1, 1] (.s 54) (.s 55)⟩,
    ⟨.slot 57, 149, none, .pick (.s 53) (.c (.bool true)) (.s 56)⟩,
    ⟨.slot 58, 150, none, .mov (.s 57)⟩,
    ⟨.slot 59, 151, (some ((.s 58), false)), .load true 3 (.v 7)⟩,
    ⟨.slot 60, 152, (some ((.s 58), false)), .call 21 [(.s 59)]⟩,
    ⟨.slot 61, 153, (some ((.s 58), false)), .load true 3 (.v 7)⟩,
    ⟨.slot 62, 154, (some ((.s 58), false)), .call 22 [(.s 61)]⟩,
    ⟨.slot 63, 155, (some ((.s 58), false)), .bin true .neq (.s 60) (.s 62)⟩,
    ⟨.slot 64, 156, none, .pick (.s 58) (.c (.bool true)) (.s 63)⟩] [] (.cond (.s 64)
  (.seq (.region false [
      ⟨.var 1, 2, none, .mov (.c (.bool false))⟩])
   (.ret))
  (.skip)))
 (.seq (.test false [
    ⟨.push, 157, none, .mov (.v 9)⟩,
    ⟨.push, 158, none, .bin false .eql (.s 0) (.c (.int .i64 (0)))⟩] (.s 0)
  (.seq (.region false [
      ⟨.push, 160, none, .mov (.v 8)⟩,
      ⟨.push, 161, none, .call 7 [(.s 0)]⟩,
      ⟨.push, 159, none, .mov (.s 0)⟩,
      ⟨.push, 162, none, .ext (.s 0) 0⟩,
      ⟨.push, 163, none, .ext (.s 1) 1⟩,
      ⟨.var 26, 27, none, .alloc (.agg [.int .i64 (0), .int .i64 (0), .int .i64 (0)])⟩,
      ⟨.no, 0, none, .store 3 (.v 26) (.s 1)⟩,
      ⟨.var 27, 28, none, .mov (.s 0)⟩])
   (.test false [
     ⟨.push, 164, none, .mov (.v 27)⟩,
     ⟨.push, 165, none, .bin false .neq (.s 0) (.c (.int .i64 (0)))⟩,
     ⟨.push, 166, none, .mov (.s 0)⟩,
     ⟨.push, 167, (some ((.s 0), false)), .load true 3 (.v 26)⟩,
     ⟨.push, 168, (some ((.s 1), false)), .load true 3 (.v 7)⟩,
     ⟨.push, 169, (some ((.s 2), false)), .eqA true [1, 1, 1] (.s 1) (.s 0)⟩,
     ⟨.push, 170, none, .pick (.s 3) (.c (.bool true)) (.s 0)⟩] (.s 0)
   (.seq (.region false [
       ⟨.var 1, 2, none, .mov (.c (.bool false))⟩])
    (.ret))
   (.skip)))
  (.skip))
 (.seq (.test false [
    ⟨.push, 171, none, .mov (.v 4)⟩,
    ⟨.push, 172, none, .bin false .neq (.s 0) (.c (.int .i64 (0)))⟩] (.s 0)
  (.seq (.region false [
      ⟨.var 1, 2, none, .mov (.c (.bool true))⟩])
   (.ret))
  (.skip))
 (.seq (.region false [
    ⟨.push, 174, none, .load true 3 (.v 3)⟩,
    ⟨.push, 175, none, .call 10 [(.s 0)]⟩,
    ⟨.push, 173, none, .mov (.s 0)⟩,
    ⟨.push, 176, none, .ext (.s 0) 0⟩,
    ⟨.push, 177, none, .ext (.s 1) 1⟩,
    ⟨.var 28, 29, none, .mov (.s 1)⟩,
    ⟨.var 29, 30, none, .mov (.s 0)⟩])
 (.seq (.test false [
    ⟨.push, 178, none, .mov (.v 29)⟩,
    ⟨.push, 179, none, .bin false .neq (.s 0) (.c (.int .i64 (0)))⟩,
    ⟨.push, 180, none, .mov (.s 0)⟩,
    ⟨.push, 181, (some ((.s 0), false)), .mov (.v 28)⟩,
    ⟨.push, 182, (some ((.s 1), false)), .mov (.v 2)⟩,
    ⟨.push, 183, (some ((.s 2), false)), .bin false .neq (.s 1) (.s 0)⟩,
    ⟨.push, 184, none, .pick (.s 3) (.c (.bool true)) (.s 0)⟩,
    ⟨.push, 185, none, .mov (.s 0)⟩,
    ⟨.push, 186, (some ((.s 0), false)), .load true 3 (.v 3)⟩,
    ⟨.push, 187, (some ((.s 1), false)), .call 21 [(.s 0)]⟩,
    ⟨.push, 188, (some ((.s 2), false)), .un .not (.s 0)⟩,
    ⟨.push, 189, none, .pick (.s 3) (.c (.bool true)) (.s 0)⟩] (.s 0)
  (.seq (.region false [
      ⟨.var 1, 2, none, .mov (.c (.bool false))⟩])
   (.ret))
  (.skip))
 (.seq (.test false [
    ⟨.push, 190, none, .mov (.v 2)⟩,
    ⟨.push, 191, none, .bin false .eql (.s 0) (.c (.int .i64 (100000)))⟩] (.s 0)
  (.seq (.region false [
      ⟨.var 1, 2, none, .mov (.c (.bool true))⟩])
   (.ret))
  (.skip))
 (.seq (.region false [
    ⟨.push, 193, none, .mov (.v 2)⟩,
    ⟨.push, 194, none, .bin false .add (.s 0) (.c (.int .i64 (1)))⟩,
    ⟨.push, 195, none, .call 7 [(.s 0)]⟩,
    ⟨.push, 192, none, .mov (.s 0)⟩,
    ⟨.push, 196, none, .ext (.s 0) 0⟩,
    ⟨.push, 197, none, .ext (.s 1) 1⟩,
    ⟨.var 30, 31, none, .alloc (.agg [.int .i64 (0), .int .i64 (0), .int .i64 (0)])⟩,
    ⟨.no, 0, none, .store 3 (.v 30) (.s 1)⟩,
    ⟨.var 31, 32, none, .mov (.s 0)⟩])
 (.seq (.region false [
    ⟨.push, 198, none, .mov (.v 31)⟩,
    ⟨.push, 199, none, .bin false .eql (.s 0) (.c (.int .i64 (0)))⟩,
    ⟨.push, 200, none, .mov (.s 0)⟩,
    ⟨.push, 201, (some ((.s 0), true)), .fldAddr 0 (.v 30)⟩,
    ⟨.push, 202, (some ((.s 1), true)), .load false 1 (.s 0)⟩,
    ⟨.push, 203, (some ((.s 2), true)), .fldAddr 0 (.v 3)⟩,
    ⟨.push, 204, (some ((.s 3), true)), .load false 1 (.s 0)⟩,
    ⟨.push, 205, (some ((.s 4), true)), .bin false .gtr (.s 2) (.s 0)⟩,
    ⟨.push, 206, (some ((.s 5), true)), .mov (.s 0)⟩,
    ⟨.push, 207, (some ((.s 0), false)), .fldAddr 0 (.v 30)⟩,
    ⟨.push, 208, (some ((.s 1), false)), .load false 1 (.s 0)⟩,
    ⟨.push, 209, (some ((.s 2), false)), .fldAddr 0 (.v 3)⟩,
    ⟨.push, 210, (some ((.s 3), false)), .load false 1 (.s 0)⟩,
    ⟨.push, 211, (some ((.s 4), false)), .bin false .eql (.s 2) (.s 0)⟩,
    ⟨.push, 212, (some ((.s 5), false)), .mov (.s 0)⟩,
    ⟨.push, 213, (some ((.s 0), true)), .fldAddr 1 (.v 30)⟩,
    ⟨.push, 214, (some ((.s 1), true)), .load false 1 (.s 0)⟩,
    ⟨.push, 215, (some ((.s 2), true)), .fldAddr 1 (.v 3)⟩,
    ⟨.push, 216, (some ((.s 3), true)), .load false 1 (.s 0)⟩,
    ⟨.push, 217, (some ((.s 4), true)), .bin false .gtr (.s 2) (.s 0)⟩,
    ⟨.push, 218, (some ((.s 5), true)), .mov (.s 0)⟩,
    ⟨.push, 219, (some ((.s 0), false)), .fldAddr 1 (.v 30)⟩,
    ⟨.push, 220, (some ((.s 1), false)), .load false 1 (.s 0)⟩,
    ⟨.push, 221, (some ((.s 2), false)), .fldAddr 1 (.v 3)⟩,
    ⟨.push, 222, (some ((.s 3), false)), .load false 1 (.s 0)⟩,
    ⟨.push, 223, (some ((.s 4), false)), .bin false .eql (.s 2) (.s 0)⟩,
    ⟨.push, 224, (some ((.s 5), false)), .mov (.s 0)⟩,
    ⟨.push, 225, (some ((.s 0), true)), .fldAddr 2 (.v 30)⟩,
    ⟨.push, 226, (some ((.s 1), true)), .load false 1 (.s 0)⟩,
    ⟨.push, 227, (some ((.s 2), true)), .fldAddr 2 (.v 3)⟩,
    ⟨.push, 228, (some ((.s 3), true)), .load false 1 (.s 0)⟩,
    ⟨.push, 229, (some ((.s 4), true)), .bin false .add (.s 0) (.c (.int .i64 (1)))⟩,
    ⟨.push, 230, (some ((.s 5), true)), .bin false .eql (.s 3) (.s 0)⟩,
    ⟨.push, 231, (some ((.s 12), false)), .pick (.s 6) (.s 0) (.c (.bool false))⟩,
    ⟨.push, 232, (some ((.s 19), true)), .pick (.s 13) (.c (.bool true)) (.s 0)⟩,
    ⟨.push, 233, (some ((.s 26), false)), .pick (.s 20) (.s 0) (.c (.bool false))⟩,
    ⟨.push, 234, (some ((.s 33), true)), .pick (.s 27) (.c (.bool true)) (.s 0)⟩,
    ⟨.push, 235, none, .pick (.s 34) (.s 0) (.c (.bool false))⟩,
    ⟨.var 1, 2, none, .mov (.s 0)⟩])
 (.ret))))))))))))))))))))))))), [.t 1]⟩
noncomputable def t_laws_FnDates : List (Nat × Ctr) := [(5, c_laws_f6big), (6, c_spec_DrawDateOf), (7, c_impl_DateOf), (8, c_spec_DateOf), (9, c_spec_DrawDayNumber), (10, c_impl_DayNumber), (11, c_spec_DayNumber), (12, c_spec_DrawWeekdayOf), (13, c_impl_WeekdayOf), (14, c_spec_WeekdayOf), (15, c_spec_DrawDateText), (16, c_impl_DateText), (17, c_impl_ReadDate), (18, c_spec_DrawReadDate), (19, c_spec_ReadDate), (20, c_spec_DateText), (21, c_impl_ValidDate), (22, c_spec_ValidDate)]
theorem lk_laws_FnDates_5 : look t_laws_FnDates 5 = some c_laws_f6big := rfl
theorem lk_laws_FnDates_6 : look t_laws_FnDates 6 = some c_spec_DrawDateOf := rfl
theorem lk_laws_FnDates_7 : look t_laws_FnDates 7 = some c_impl_DateOf := rfl
theorem lk_laws_FnDates_8 : look t_laws_FnDates 8 = some c_spec_DateOf := rfl
theorem lk_laws_FnDates_9 : look t_laws_FnDates 9 = some c_spec_DrawDayNumber := rfl
theorem lk_laws_FnDates_10 : look t_laws_FnDates 10 = some c_impl_DayNumber := rfl
theorem lk_laws_FnDates_11 : look t_laws_FnDates 11 = some c_spec_DayNumber := rfl
theorem lk_laws_FnDates_12 : look t_laws_FnDates 12 = some c_spec_DrawWeekdayOf := rfl
theorem lk_laws_FnDates_13 : look t_laws_FnDates 13 = some c_impl_WeekdayOf := rfl
theorem lk_laws_FnDates_14 : look t_laws_FnDates 14 = some c_spec_WeekdayOf := rfl
theorem lk_laws_FnDates_15 : look t_laws_FnDates 15 = some c_spec_DrawDateText := rfl
theorem lk_laws_FnDates_16 : look t_laws_FnDates 16 = some c_impl_DateText := rfl
theorem lk_laws_FnDates_17 : look t_laws_FnDates 17 = some c_impl_ReadDate := rfl
theorem lk_laws_FnDates_18 : look t_laws_FnDates 18 = some c_spec_DrawReadDate := rfl
theorem lk_laws_FnDates_19 : look t_laws_FnDates 19 = some c_spec_ReadDate := rfl
theorem lk_laws_FnDates_20 : look t_laws_FnDates 20 = some c_spec_DateText := rfl
theorem lk_laws_FnDates_21 : look t_laws_FnDates 21 = some c_impl_ValidDate := rfl
theorem lk_laws_FnDates_22 : look t_laws_FnDates 22 = some c_spec_ValidDate := rfl
noncomputable def c_laws_FnDates : Ctr := mkF t_laws_FnDates ir3 [.bor]
theorem s_laws_FnDates : Sound Tryd.prog 3 c_laws_FnDates := mkF_sound _ rfl (snd_cons s_laws_f6big (snd_cons s_spec_DrawDateOf (snd_cons s_impl_DateOf (snd_cons s_spec_DateOf (snd_cons s_spec_DrawDayNumber (snd_cons s_impl_DayNumber (snd_cons s_spec_DayNumber (snd_cons s_spec_DrawWeekdayOf (snd_cons s_impl_WeekdayOf (snd_cons s_spec_WeekdayOf (snd_cons s_spec_DrawDateText (snd_cons s_impl_DateText (snd_cons s_impl_ReadDate (snd_cons s_spec_DrawReadDate (snd_cons s_spec_ReadDate (snd_cons s_spec_DateText (snd_cons s_impl_ValidDate (snd_cons s_spec_ValidDate snd_nil)))))))))))))))))) (by kernel_rfl : chkFn Tryd.prog 3 ir3 ir3_v = true)
theorem M_laws_FnDates : c_laws_FnDates.modes = [.bor] := rfl
theorem Fl_laws_FnDates : c_laws_FnDates.flat = true := rfl
attribute [go_sem] M_laws_FnDates Fl_laws_FnDates
attribute [go_sem] lk_laws_FnDates_5 lk_laws_FnDates_6 lk_laws_FnDates_7 lk_laws_FnDates_8 lk_laws_FnDates_9 lk_laws_FnDates_10 lk_laws_FnDates_11 lk_laws_FnDates_12 lk_laws_FnDates_13 lk_laws_FnDates_14 lk_laws_FnDates_15 lk_laws_FnDates_16 lk_laws_FnDates_17 lk_laws_FnDates_18 lk_laws_FnDates_19 lk_laws_FnDates_20 lk_laws_FnDates_21 lk_laws_FnDates_22
set_option maxHeartbeats 8000000 in
theorem Fs_laws_FnDates {code : List UInt8} {y_ : Bool} (h : laws_FnDates code = some y_) : c_laws_FnDates.F [.sl 1 (List.map byteAV code)] = ⟨true, .bool y_, [.any]⟩ := by
  refine mkF_E rfl ?_
  dsimp only [laws_FnDates] at h
  obtain ⟨y_1, hk1, h⟩ := bd_some h
  have fhk1 := Fs_laws_f6big hk1
  try simp only [go_sem] at fhk1
  rcases it_some h with ⟨hk2, h⟩ | ⟨hk2, h⟩
  · try simp only [go_sem, n1, n2, n3, n4] at hk2
    all_goals
    obtain rfl := so_some h
    refine ⟨0, fun L hL => ?_⟩
    simp only [go_sem, ir3, fhk1, hk2]
  · try simp only [go_sem, n1, n2, n3, n4] at hk2
    all_goals
    obtain ⟨y_3, hk3, h⟩ := bd_some h
    have fhk3 := Fs_spec_DrawDateOf hk3
    try simp only [go_sem, hk2] at fhk3
    obtain ⟨y_4, hk4, h⟩ := bd_some h
    have fhk4 := Fs_impl_DateOf hk4
    try simp only [go_sem, hk2] at fhk4
    obtain ⟨y_5, hk5, h⟩ := bd_some h
    have fhk5 := Fs_spec_DateOf hk5
    try simp only [go_sem, hk2] at fhk5
    obtain ⟨y_6, hk6, h⟩ := bd_some h
    have fhk6 := Fs_spec_DrawDayNumber hk6
    try simp only [go_sem, hk2] at fhk6
    obtain ⟨y_7, hk7, h⟩ := bd_some h
    have fhk7 := Fs_impl_DayNumber hk7
    try simp only [go_sem, hk2] at fhk7
    obtain ⟨y_8, hk8, h⟩ := bd_some h
    have fhk8 := Fs_spec_DayNumber hk8
    try simp only [go_sem, hk2] at fhk8
    obtain ⟨y_9, hk9, h⟩ := bd_some h
    have fhk9 := Fs_spec_DrawWeekdayOf hk9
    try simp only [go_sem, hk2] at fhk9
    obtain ⟨y_10, hk10, h⟩ := bd_some h
    have fhk10 := Fs_impl_WeekdayOf hk10
    try simp only [go_sem, hk2] at fhk10
    obtain ⟨y_11, hk11, h⟩ := bd_some h
    have fhk11 := Fs_spec_WeekdayOf hk11
    try simp only [go_sem, hk2] at fhk11
    obtain ⟨y_12, hk12, h⟩ := bd_some h
    have fhk12 := Fs_spec_DrawDateText hk12
    try simp only [go_sem, hk2] at fhk12
    obtain ⟨y_13, hk13, h⟩ := bd_some h
    have fhk13 := Fs_impl_DateText hk13
    try simp only [go_sem, hk2] at fhk13
    obtain ⟨y_14, hk14, h⟩ := bd_some h
    have fhk14 := Fs_impl_ReadDate hk14
    try simp only [go_sem, hk2] at fhk14
    obtain ⟨y_15, hk15, h⟩ := bd_some h
    have fhk15 := Fs_spec_DrawReadDate hk15
    try simp only [go_sem, hk2] at fhk15
    obtain ⟨y_16, hk16, h⟩ := bd_some h
    have fhk16 := Fs_impl_ReadDate hk16
    try simp only [go_sem, hk2] at fhk16
    obtain ⟨y_17, hk17, h⟩ := bd_some h
    have fhk17 := Fs_spec_ReadDate hk17
    try simp only [go_sem, hk2] at fhk17
    obtain ⟨hk18, h⟩ := ck_some h
    rcases or_split hk18 with ⟨ghk18, hk18⟩ | ghk18
    · try simp only [go_sem, n1, n2, n3, n4, hk2] at ghk18
      all_goals
      obtain ⟨y_18, hhk18⟩ := Option.isSome_iff_exists.1 hk18
      have fhk18 := Fs_spec_DateText hhk18
      try simp only [go_sem, n1, n2, n3, n4, hk2, ghk18] at hhk18
      all_goals
      try simp only [go_sem, hk2, ghk18] at fhk18
      obtain ⟨hk19, h⟩ := ck_some h
      rcases or_split hk19 with ⟨ghk19, hk19⟩ | ghk19
      · try simp only [go_sem, n1, n2, n3, n4, hk2, ghk18, hhk18] at ghk19
        all_goals
        obtain ⟨y_19, hhk19⟩ := Option.isSome_iff_exists.1 hk19
        have fhk19 := Fs_impl_ValidDate hhk19
        try simp only [go_sem, n1, n2, n3, n4, hk2, ghk18, hhk18, ghk19] at hhk19
        all_goals
        try simp only [go_sem, hk2, ghk18, hhk18, ghk19] at fhk19
        obtain ⟨hk20, h⟩ := ck_some h
        rcases or_split hk20 with ⟨ghk20, hk20⟩ | ghk20
        · try simp only [go_sem, n1, n2, n3, n4, hk2, ghk18, hhk18, ghk19, hhk19] at ghk20
          all_goals
          obtain ⟨y_20, hhk20⟩ := Option.isSome_iff_exists.1 hk20
          have fhk20 := Fs_spec_ValidDate hhk20
          try simp only [go_sem, n1, n2, n3, n4, hk2, ghk18, hhk18, ghk19, hhk19, ghk20] at hhk20
          all_goals
          try simp only [go_sem, hk2, ghk18, hhk18, ghk19, hhk19, ghk20] at fhk20
          rcases it_some h with ⟨hk21, h⟩ | ⟨hk21, h⟩
          · try simp only [go_sem, n1, n2, n3, n4, hk2, ghk18, hhk18, ghk19, hhk19, ghk20, hhk20] at hk21
            all_goals
            obtain rfl := so_some h
            refine ⟨0, fun L hL => ?_⟩
            simp only [go_sem, ir3, fhk1, hk2, fhk3, fhk4, fhk5, fhk6, fhk7, fhk8, fhk9, fhk10, fhk11, fhk12, fhk13, fhk14, fhk15, fhk16, fhk17, ghk18, hhk18, fhk18, ghk19, hhk19, fhk19, ghk20, hhk20, fhk20, hk21]
          · try simp only [go_sem, n1, n2, n3, n4, hk2, ghk18, hhk18, ghk19, hhk19, ghk20, hhk20] at hk21
            all_goals
            rcases it_some h with ⟨hk22, h⟩ | ⟨hk22, h⟩
            · try simp only [go_sem, n1, n2, n3, n4, hk2, ghk18, hhk18, ghk19, hhk19, ghk20, hhk20, hk21] at hk22
              all_goals
              obtain ⟨y_23, hk23, h⟩ := bd_some h
              have fhk23 := Fs_impl_DateOf hk23
              try simp only [go_sem, hk2, ghk18, hhk18, ghk19, hhk19, ghk20, hhk20, hk21, hk22] at fhk23
              rcases it_some h with ⟨hk24, h⟩ | ⟨hk24, h⟩
              · try simp only [go_sem, n1, n2, n3, n4, hk2, ghk18, hhk18, ghk19, hhk19, ghk20, hhk20, hk21, hk22] at hk24
                all_goals
                obtain rfl := so_some h
                refine ⟨0, fun L hL => ?_⟩
                simp only [go_sem, ir3, fhk1, hk2, fhk3, fhk4, fhk5, fhk6, fhk7, fhk8, fhk9, fhk10, fhk11, fhk12, fhk13, fhk14, fhk15, fhk16, fhk17, ghk18, hhk18, fhk18, ghk19, hhk19, fhk19, ghk20, hhk20, fhk20, hk21, hk22, fhk23, hk24]
              · try simp only [go_sem, n1, n2, n3, n4, hk2, ghk18, hhk18, ghk19, hhk19, ghk20, hhk20, hk21, hk22] at hk24
                all_goals
                rcases it_some h with ⟨hk25, h⟩ | ⟨hk25, h⟩
                · try simp only [go_sem, n1, n2, n3, n4, hk2, ghk18, hhk18, ghk19, hhk19, ghk20, hhk20, hk21, hk22, hk24] at hk25
                  all_goals
                  obtain rfl := so_some h
                  refine ⟨0, fun L hL => ?_⟩
                  simp only [go_sem, ir3, fhk1, hk2, fhk3, fhk4, fhk5, fhk6, fhk7, fhk8, fhk9, fhk10, fhk11, fhk12, fhk13, fhk14, fhk15, fhk16, fhk17, ghk18, hhk18, fhk18, ghk19, hhk19, fhk19, ghk20, hhk20, fhk20, hk21, hk22, fhk23, hk24, hk25]
                · try simp only [go_sem, n1, n2, n3, n4, hk2, ghk18, hhk18, ghk19, hhk19, ghk20, hhk20, hk21, hk22, hk24] at hk25
                  all_goals
                  obtain ⟨y_26, hk26, h⟩ := bd_some h
                  have fhk26 := Fs_impl_DayNumber hk26
                  try simp only [go_sem, hk2, ghk18, hhk18, ghk19, hhk19, ghk20, hhk20, hk21, hk22, hk24, hk25] at fhk26
                  obtain ⟨hk27, h⟩ := ck_some h
                  rcases or_split hk27 with ⟨ghk27, hk27⟩ | ghk27
                  · try simp only [go_sem, n1, n2, n3, n4, hk2, ghk18, hhk18, ghk19, hhk19, ghk20, hhk20, hk21, hk22, hk24, hk25] at ghk27
                    all_goals
                    obtain ⟨y_27, hhk27⟩ := Option.isSome_iff_exists.1 hk27
                    have fhk27 := Fs_impl_ValidDate hhk27
                    try simp only [go_sem, n1, n2, n3, n4, hk2, ghk18, hhk18, ghk19, hhk19, ghk20, hhk20, hk21, hk22, hk24, hk25, ghk27] at hhk27
                    all_goals
                    try simp only [go_sem, hk2, ghk18, hhk18, ghk19, hhk19, ghk20, hhk20, hk21, hk22, hk24, hk25, ghk27] at fhk27
                    rcases it_some h with ⟨hk28, h⟩ | ⟨hk28, h⟩
                    · try simp only [go_sem, n1, n2, n3, n4, hk2, ghk18, hhk18, ghk19, hhk19, ghk20, hhk20, hk21, hk22, hk24, hk25, ghk27, hhk27] at hk28
                      all_goals
                      obtain rfl := so_some h
                      refine ⟨0, fun L hL => ?_⟩
                      simp only [go_sem, ir3, fhk1, hk2, fhk3, fhk4, fhk5, fhk6, fhk7, fhk8, fhk9, fhk10, fhk11, fhk12, fhk13, fhk14, fhk15, fhk16, fhk17, ghk18, hhk18, fhk18, ghk19, hhk19, fhk19, ghk20, hhk20, fhk20, hk21, hk22, fhk23, hk24, hk25, fhk26, ghk27, hhk27, fhk27, hk28]
                    · try simp only [go_sem, n1, n2, n3, n4, hk2, ghk18, hhk18, ghk19, hhk19, ghk20, hhk20, hk21, hk22, hk24, hk25, ghk27, hhk27] at hk28
                      all_goals
                      rcases it_some h with ⟨hk29, h⟩ | ⟨hk29, h⟩
                      · try simp only [go_sem, n1, n2, n3, n4, hk2, ghk18, hhk18, ghk19, hhk19, ghk20, hhk20, hk21, hk22, hk24, hk25, ghk27, hhk27, hk28] at hk29
                        all_goals
                        obtain rfl := so_some h
                        refine ⟨0, fun L hL => ?_⟩
                        simp only [go_sem, ir3, fhk1, hk2, fhk3, fhk4, fhk5, fhk6, fhk7, fhk8, fhk9, fhk10, fhk11, fhk12, fhk13, fhk14, fhk15, fhk16, fhk17, ghk18, hhk18, fhk18, ghk19, hhk19, fhk19, ghk20, hhk20, fhk20, hk21, hk22, fhk23, hk24, hk25, fhk26, ghk27, hhk27, fhk27, hk28, hk29]
                      · try simp only [go_sem, n1, n2, n3, n4, hk2, ghk18, hhk18, ghk19, hhk19, ghk20, hhk20, hk21, hk22, hk24, hk25, ghk27, hhk27, hk28] at hk29
                        all_goals
                        obtain ⟨y_30, hk30, h⟩ := bd_some h
                        have fhk30 := Fs_impl_DateOf hk30
                        try simp only [go_sem, hk2, ghk18, hhk18, ghk19, hhk19, ghk20, hhk20, hk21, hk22, hk24, hk25, ghk27, hhk27, hk28, hk29] at fhk30
                        obtain rfl := so_some h
                        refine ⟨0, fun L hL => ?_⟩
                        simp only [go_sem, ir3, fhk1, hk2, fhk3, fhk4, fhk5, fhk6, fhk7, fhk8, fhk9, fhk10, fhk11, fhk12, fhk13, fhk14, fhk15, fhk16, fhk17, ghk18, hhk18, fhk18, ghk19, hhk19, fhk19, ghk20, hhk20, fhk20, hk21, hk22, fhk23, hk24, hk25, fhk26, ghk27, hhk27, fhk27, hk28, hk29, fhk30]
                  · have ghk27n := no_f ghk27
                    rcases or_t ghk27n with ghk27na | ⟨ghk27na, ghk27nb⟩
                    · have ghk27nan := no_t ghk27na
                      try simp only [go_sem, n1, n2, n3, n4, hk2, ghk18, hhk18, ghk19, hhk19, ghk20, hhk20, hk21, hk22, hk24, hk25] at ghk27nan
                      all_goals
                      rcases it_some h with ⟨hk28, h⟩ | ⟨hk28, h⟩
                      · try simp only [go_sem, n1, n2, n3, n4, hk2, ghk18, hhk18, ghk19, hhk19, ghk20, hhk20, hk21, hk22, hk24, hk25, ghk27nan] at hk28
                        all_goals
                        obtain rfl := so_some h
                        refine ⟨0, fun L hL => ?_⟩
                        simp only [go_sem, ir3, fhk1, hk2, fhk3, fhk4, fhk5, fhk6, fhk7, fhk8, fhk9, fhk10, fhk11, fhk12, fhk13, fhk14, fhk15, fhk16, fhk17, ghk18, hhk18, fhk18, ghk19, hhk19, fhk19, ghk20, hhk20, fhk20, hk21, hk22, fhk23, hk24, hk25, fhk26, ghk27nan, hk28]
                      · try simp only [go_sem, n1, n2, n3, n4, hk2, ghk18, hhk18, ghk19, hhk19, ghk20, hhk20, hk21, hk22, hk24, hk25, ghk27nan] at hk28
                        all_goals
                        (simp_all)
                    · have ghk27nan := no_f ghk27na
                      have ghk27nbn := no_t ghk27nb
                      try simp only [go_sem, n1, n2, n3, n4, hk2, ghk18, hhk18, ghk19, hhk19, ghk20, hhk20, hk21, hk22, hk24, hk25] at ghk27nan
                      all_goals
                      try simp only [go_sem, n1, n2, n3, n4, hk2, ghk18, hhk18, ghk19, hhk19, ghk20, hhk20, hk21, hk22, hk24, hk25, ghk27nan] at ghk27nbn
                      all_goals
                      rcases it_some h with ⟨hk28, h⟩ | ⟨hk28, h⟩
                      · try simp only [go_sem, n1, n2, n3, n4, hk2, ghk18, hhk18, ghk19, hhk19, ghk20, hhk20, hk21, hk22, hk24, hk25, ghk27nan, ghk27nbn] at hk28
                        all_goals
                        obtain rfl := so_some h
                        refine ⟨0, fun L hL => ?_⟩
                        simp only [go_sem, ir3, fhk1, hk2, fhk3, fhk4, fhk5, fhk6, fhk7, fhk8, fhk9, fhk10, fhk11, fhk12, fhk13, fhk14, fhk15, fhk16, fhk17, ghk18, hhk18, fhk18, ghk19, hhk19, fhk19, ghk20, hhk20, fhk20, hk21, hk22, fhk23, hk24, hk25, fhk26, ghk27nan, ghk27nbn, hk28]
                      · try simp only [go_sem, n1, n2, n3, n4, hk2, ghk18, hhk18, ghk19, hhk19, ghk20, hhk20, hk21, hk22, hk24, hk25, ghk27nan, ghk27nbn] at hk28
                        all_goals
                        (simp_all)
            · try simp only [go_sem, n1, n2, n3, n4, hk2, ghk18, hhk18, ghk19, hhk19, ghk20, hhk20, hk21] at hk22
              all_goals
              rcases it_some h with ⟨hk31, h⟩ | ⟨hk31, h⟩
              · try simp only [go_sem, n1, n2, n3, n4, hk2, ghk18, hhk18, ghk19, hhk19, ghk20, hhk20, hk21, hk22] at hk31
                all_goals
                obtain rfl := so_some h
                refine ⟨0, fun L hL => ?_⟩
                simp only [go_sem, ir3, fhk1, hk2, fhk3, fhk4, fhk5, fhk6, fhk7, fhk8, fhk9, fhk10, fhk11, fhk12, fhk13, fhk14, fhk15, fhk16, fhk17, ghk18, hhk18, fhk18, ghk19, hhk19, fhk19, ghk20, hhk20, fhk20, hk21, hk22, hk31]
              · try simp only [go_sem, n1, n2, n3, n4, hk2, ghk18, hhk18, ghk19, hhk19, ghk20, hhk20, hk21, hk22] at hk31
                all_goals
                obtain ⟨y_32, hk32, h⟩ := bd_some h
                have fhk32 := Fs_impl_DayNumber hk32
                try simp only [go_sem, hk2, ghk18, hhk18, ghk19, hhk19, ghk20, hhk20, hk21, hk22, hk31] at fhk32
                obtain ⟨hk33, h⟩ := ck_some h
                rcases or_split hk33 with ⟨ghk33, hk33⟩ | ghk33
                · try simp only [go_sem, n1, n2, n3, n4, hk2, ghk18, hhk18, ghk19, hhk19, ghk20, hhk20, hk21, hk22, hk31] at ghk33
                  all_goals
                  obtain ⟨y_33, hhk33⟩ := Option.isSome_iff_exists.1 hk33
                  have fhk33 := Fs_impl_ValidDate hhk33
                  try simp only [go_sem, n1, n2, n3, n4, hk2, ghk18, hhk18, ghk19, hhk19, ghk20, hhk20, hk21, hk22, hk31, ghk33] at hhk33
                  all_goals
                  try simp only [go_sem, hk2, ghk18, hhk18, ghk19, hhk19, ghk20, hhk20, hk21, hk22, hk31, ghk33] at fhk33
                  rcases it_some h with ⟨hk34, h⟩ | ⟨hk34, h⟩
                  · try simp only [go_sem, n1, n2, n3, n4, hk2, ghk18, hhk18, ghk19, hhk19, ghk20, hhk20, hk21, hk22, hk31, ghk33, hhk33] at hk34
                    all_goals
                    obtain rfl := so_some h
                    refine ⟨0, fun L hL => ?_⟩
                    simp only [go_sem, ir3, fhk1, hk2, fhk3, fhk4, fhk5, fhk6, fhk7, fhk8, fhk9, fhk10, fhk11, fhk12, fhk13, fhk14, fhk15, fhk16, fhk17, ghk18, hhk18, fhk18, ghk19, hhk19, fhk19, ghk20, hhk20, fhk20, hk21, hk22, hk31, fhk32, ghk33, hhk33, fhk33, hk34]
                  · try simp only [go_sem, n1, n2, n3, n4, hk2, ghk18, hhk18, ghk19, hhk19, ghk20, hhk20, hk21, hk22, hk31, ghk33, hhk33] at hk34
                    all_goals
                    rcases it_some h with ⟨hk35, h⟩ | ⟨hk35, h⟩
                    · try simp only [go_sem, n1, n2, n3, n4, hk2, ghk18, hhk18, ghk19, hhk19, ghk20, hhk20, hk21, hk22, hk31, ghk33, hhk33, hk34] at hk35
                      all_goals
                      obtain rfl := so_some h
                      refine ⟨0, fun L hL => ?_⟩
                      simp only [go_sem, ir3, fhk1, hk2, fhk3, fhk4, fhk5, fhk6, fhk7, fhk8, fhk9, fhk10, fhk11, fhk12, fhk13, fhk14, fhk15, fhk16, fhk17, ghk18, hhk18, fhk18, ghk19, hhk19, fhk19, ghk20, hhk20, fhk20, hk21, hk22, hk31, fhk32, ghk33, hhk33, fhk33, hk34, hk35]
                    · try simp only [go_sem, n1, n2, n3, n4, hk2, ghk18, hhk18, ghk19, hhk19, ghk20, hhk20, hk21, hk22, hk31, ghk33, hhk33, hk34] at hk35
                      all_goals
                      obtain ⟨y_36, hk36, h⟩ := bd_some h
                      have fhk36 := Fs_impl_DateOf hk36
                      try simp only [go_sem, hk2, ghk18, hhk18, ghk19, hhk19, ghk20, hhk20, hk21, hk22, hk31, ghk33, hhk33, hk34, hk35] at fhk36
                      obtain rfl := so_some h
                      refine ⟨0, fun L hL => ?_⟩
                      simp only [go_sem, ir3, fhk1, hk2, fhk3, fhk4, fhk5, fhk6, fhk7, fhk8, fhk9, fhk10, fhk11, fhk12, fhk13, fhk14, fhk15, fhk16, fhk17, ghk18, hhk18, fhk18, ghk19, hhk19, fhk19, ghk20, hhk20, fhk20, hk21, hk22, hk31, fhk32, ghk33, hhk33, fhk33, hk34, hk35, fhk36]
                · have ghk33n := no_f ghk33
                  rcases or_t ghk33n with ghk33na | ⟨ghk33na, ghk33nb⟩
                  · have ghk33nan := no_t ghk33na
                    try simp only [go_sem, n1, n2, n3, n4, hk2, ghk18, hhk18, ghk19, hhk19, ghk20, hhk20, hk21, hk22, hk31] at ghk33nan
                    all_goals
                    rcases it_some h with ⟨hk34, h⟩ | ⟨hk34, h⟩
                    · try simp only [go_sem, n1, n2, n3, n4, hk2, ghk18, hhk18, ghk19, hhk19, ghk20, hhk20, hk21, hk22, hk31, ghk33nan] at hk34
                      all_goals
                      obtain rfl := so_some h
                      refine ⟨0, fun L hL => ?_⟩
                      simp only [go_sem, ir3, fhk1, hk2, fhk3, fhk4, fhk5, fhk6, fhk7, fhk8, fhk9, fhk10, fhk11, fhk12, fhk13, fhk14, fhk15, fhk16, fhk17, ghk18, hhk18, fhk18, ghk19, hhk19, fhk19, ghk20, hhk20, fhk20, hk21, hk22, hk31, fhk32, ghk33nan, hk34]
                    · try simp only [go_sem, n1, n2, n3, n4, hk2, ghk18, hhk18, ghk19, hhk19, ghk20, hhk20, hk21, hk22, hk31, ghk33nan] at hk34
                      all_goals
                      (simp_all)
                  · have ghk33nan := no_f ghk33na
                    have ghk33nbn := no_t ghk33nb
                    try simp only [go_sem, n1, n2, n3, n4, hk2, ghk18, hhk18, ghk19, hhk19, ghk20, hhk20, hk21, hk22, hk31] at ghk33nan
                    all_goals
                    try simp only [go_sem, n1, n2, n3, n4, hk2, ghk18, hhk18, ghk19, hhk19, ghk20, hhk20, hk21, hk22, hk31, ghk33nan] at ghk33nbn
                    all_goals
                    rcases it_some h with ⟨hk34, h⟩ | ⟨hk34, h⟩
                    · try simp only [go_sem, n1, n2, n3, n4, hk2, ghk18, hhk18, ghk19, hhk19, ghk20, hhk20, hk21, hk22, hk31, ghk33nan, ghk33nbn] at hk34
                      all_goals
                      obtain rfl := so_some h
                      refine ⟨0, fun L hL => ?_⟩
                      simp only [go_sem, ir3, fhk1, hk2, fhk3, fhk4, fhk5, fhk6, fhk7, fhk8, fhk9, fhk10, fhk11, fhk12, fhk13, fhk14, fhk15, fhk16, fhk17, ghk18, hhk18, fhk18, ghk19, hhk19, fhk19, ghk20, hhk20, fhk20, hk21, hk22, hk31, fhk32, ghk33nan, ghk33nbn, hk34]
                    · try simp only [go_sem, n1, n2, n3, n4, hk2, ghk18, hhk18, ghk19, hhk19, ghk20, hhk20, hk21, hk22, hk31, ghk33nan, ghk33nbn] at hk34
                      all_goals
                      (simp_all)
        · have ghk20n := no_f ghk20
          rcases or_t ghk20n with ghk20na | ⟨ghk20na, ghk20nb⟩
          · try simp only [go_sem, n1, n2, n3, n4, hk2, ghk18, hhk18, ghk19, hhk19] at ghk20na
            all_goals
            (simp_all)
          · obtain ⟨ghk20naa, ghk20nab⟩ := or_f ghk20na
            obtain ⟨ghk20naaa, ghk20naab⟩ := or_f ghk20naa
            obtain ⟨ghk20naaaa, ghk20naaab⟩ := or_f ghk20naaa
            obtain ⟨ghk20naaaaa, ghk20naaaab⟩ := or_f ghk20naaaa
            obtain ⟨ghk20naaaaaa, ghk20naaaaab⟩ := or_f ghk20naaaaa
            obtain ⟨ghk20naaaaaaa, ghk20naaaaaab⟩ := or_f ghk20naaaaaa
            obtain ⟨ghk20naaaaaaaa, ghk20naaaaaaab⟩ := or_f ghk20naaaaaaa
            obtain ⟨ghk20naaaaaaaaa, ghk20naaaaaaaab⟩ := or_f ghk20naaaaaaaa
            obtain ⟨ghk20naaaaaaaaaa, ghk20naaaaaaaaab⟩ := or_f ghk20naaaaaaaaa
            have ghk20naaaaaaaaaan := no_f ghk20naaaaaaaaaa
            have ghk20naaaaaaaaabn := no_f ghk20naaaaaaaaab
            obtain ⟨ghk20naaaaaaaaabna, ghk20naaaaaaaaabnb⟩ := and_t ghk20naaaaaaaaabn
            obtain ⟨ghk20naaaaaaaaabnba, ghk20naaaaaaaaabnbb⟩ := and_t ghk20naaaaaaaaabnb
            have ghk20naaaaaaaabn := no_f ghk20naaaaaaaab
            have ghk20naaaaaaabn := no_f ghk20naaaaaaab
            have ghk20naaaaaabn := no_f ghk20naaaaaab
            have ghk20naaaaabn := no_f ghk20naaaaab
            have ghk20naaaabn := no_f ghk20naaaab
            have ghk20naaabn := no_f ghk20naaab
            rcases and_f ghk20naab with ghk20naaba | ⟨ghk20naaba, ghk20naabb⟩
            · have ghk20nabn := no_f ghk20nab
              have ghk20nbn := no_t ghk20nb
              rcases and_f ghk20nbn with ghk20nbna | ⟨ghk20nbna, ghk20nbnb⟩
              · try simp only [go_sem, n1, n2, n3, n4, hk2, ghk18, hhk18, ghk19, hhk19, ghk20naaaaaaaaaan, ghk20naaaaaaaaabna, ghk20naaaaaaaaabnba, ghk20naaaaaaaaabnbb, ghk20naaaaaaaabn, ghk20naaaaaaabn, ghk20naaaaaabn, ghk20naaaaabn, ghk20naaaabn, ghk20naaabn, ghk20naaba, ghk20nabn] at ghk20nbna
                all_goals
                (simp_all)
              · rcases and_f ghk20nbnb with ghk20nbnba | ⟨ghk20nbnba, ghk20nbnbb⟩
                · try simp only [go_sem, n1, n2, n3, n4, hk2, ghk18, hhk18, ghk19, hhk19, ghk20naaaaaaaaaan, ghk20naaaaaaaaabna, ghk20naaaaaaaaabnba, ghk20naaaaaaaaabnbb, ghk20naaaaaaaabn, ghk20naaaaaaabn, ghk20naaaaaabn, ghk20naaaaabn, ghk20naaaabn, ghk20naaabn, ghk20naaba, ghk20nabn, ghk20nbna] at ghk20nbnba
                  all_goals
                  (simp_all)
                · try simp only [go_sem, n1, n2, n3, n4, hk2, ghk18, hhk18, ghk19, hhk19] at ghk20naaaaaaaaaan
                  all_goals
                  try simp only [go_sem, n1, n2, n3, n4, hk2, ghk18, hhk18, ghk19, hhk19, ghk20naaaaaaaaaan] at ghk20naaaaaaaaabna
                  all_goals
                  try simp only [go_sem, n1, n2, n3, n4, hk2, ghk18, hhk18, ghk19, hhk19, ghk20naaaaaaaaaan, ghk20naaaaaaaaabna] at ghk20naaaaaaaaabnba
                  all_goals
                  try simp only [go_sem, n1, n2, n3, n4, hk2, ghk18, hhk18, ghk19, hhk19, ghk20naaaaaaaaaan, ghk20naaaaaaaaabna, ghk20naaaaaaaaabnba] at ghk20naaaaaaaaabnbb
                  all_goals
                  try simp only [go_sem, n1, n2, n3, n4, hk2, ghk18, hhk18, ghk19, hhk19, ghk20naaaaaaaaaan, ghk20naaaaaaaaabna, ghk20naaaaaaaaabnba, ghk20naaaaaaaaabnbb] at ghk20naaaaaaaabn
                  all_goals
                  try simp only [go_sem, n1, n2, n3, n4, hk2, ghk18, hhk18, ghk19, hhk19, ghk20naaaaaaaaaan, ghk20naaaaaaaaabna, ghk20naaaaaaaaabnba, ghk20naaaaaaaaabnbb, ghk20naaaaaaaabn] at ghk20naaaaaaabn
                  all_goals
                  try simp only [go_sem, n1, n2, n3, n4, hk2, ghk18, hhk18, ghk19, hhk19, ghk20naaaaaaaaaan, ghk20naaaaaaaaabna, ghk20naaaaaaaaabnba, ghk20naaaaaaaaabnbb, ghk20naaaaaaaabn, ghk20naaaaaaabn] at ghk20naaaaaabn
                  all_goals
                  try simp only [go_sem, n1, n2, n3, n4, hk2, ghk18, hhk18, ghk19, hhk19, ghk20naaaaaaaaaan, ghk20naaaaaaaaabna, ghk20naaaaaaaaabnba, ghk20naaaaaaaaabnbb, ghk20naaaaaaaabn, ghk20naaaaaaabn, ghk20naaaaaabn] at ghk20naaaaabn
                  all_goals
                  try simp only [go_sem, n1, n2, n3, n4, hk2, ghk18, hhk18, ghk19, hhk19, ghk20naaaaaaaaaan, ghk20naaaaaaaaabna, ghk20naaaaaaaaabnba, ghk20naaaaaaaaabnbb, ghk20naaaaaaaabn, ghk20naaaaaaabn, ghk20naaaaaabn, ghk20naaaaabn] at ghk20naaaabn
                  all_goals
                  try simp only [go_sem, n1, n2, n3, n4, hk2, ghk18, hhk18, ghk19, hhk19, ghk20naaaaaaaaaan, ghk20naaaaaaaaabna, ghk20naaaaaaaaabnba, ghk20naaaaaaaaabnbb, ghk20naaaaaaaabn, ghk20naaaaaaabn, ghk20naaaaaabn, ghk20naaaaabn, ghk20naaaabn] at ghk20naaabn
                  all_goals
                  try simp only [go_sem, n1, n2, n3, n4, hk2, ghk18, hhk18, ghk19, hhk19, ghk20naaaaaaaaaan, ghk20naaaaaaaaabna, ghk20naaaaaaaaabnba, ghk20naaaaaaaaabnbb, ghk20naaaaaaaabn, ghk20naaaaaaabn, ghk20naaaaaabn, ghk20naaaaabn, ghk20naaaabn, ghk20naaabn] at ghk20naaba
                  all_goals
                  try simp only [go_sem, n1, n2, n3, n4, hk2, ghk18, hhk18, ghk19, hhk19, ghk20naaaaaaaaaan, ghk20naaaaaaaaabna, ghk20naaaaaaaaabnba, ghk20naaaaaaaaabnbb, ghk20naaaaaaaabn, ghk20naaaaaaabn, ghk20naaaaaabn, ghk20naaaaabn, ghk20naaaabn, ghk20naaabn, ghk20naaba] at ghk20nabn
                  all_goals
                  try simp only [go_sem, n1, n2, n3, n4, hk2, ghk18, hhk18, ghk19, hhk19, ghk20naaaaaaaaaan, ghk20naaaaaaaaabna, ghk20naaaaaaaaabnba, ghk20naaaaaaaaabnbb, ghk20naaaaaaaabn, ghk20naaaaaaabn, ghk20naaaaaabn, ghk20naaaaabn, ghk20naaaabn, ghk20naaabn, ghk20naaba, ghk20nabn] at ghk20nbna
                  all_goals
                  try simp only [go_sem, n1, n2, n3, n4, hk2, ghk18, hhk18, ghk19, hhk19, ghk20naaaaaaaaaan, ghk20naaaaaaaaabna, ghk20naaaaaaaaabnba, ghk20naaaaaaaaabnbb, ghk20naaaaaaaabn, ghk20naaaaaaabn, ghk20naaaaaabn, ghk20naaaaabn, ghk20naaaabn, ghk20naaabn, ghk20naaba, ghk20nabn, ghk20nbna] at ghk20nbnba
                  all_goals
                  try simp only [go_sem, n1, n2, n3, n4, hk2, ghk18, hhk18, ghk19, hhk19, ghk20naaaaaaaaaan, ghk20naaaaaaaaabna, ghk20naaaaaaaaabnba, ghk20naaaaaaaaabnbb, ghk20naaaaaaaabn, ghk20naaaaaaabn, ghk20naaaaaabn, ghk20naaaaabn, ghk20naaaabn, ghk20naaabn, ghk20naaba, ghk20nabn, ghk20nbna, ghk20nbnba] at ghk20nbnbb
                  all_goals
                  rcases it_some h with ⟨hk21, h⟩ | ⟨hk21, h⟩
                  · try simp only [go_sem, n1, n2, n3, n4, hk2, ghk18, hhk18, ghk19, hhk19, ghk20naaaaaaaaaan, ghk20naaaaaaaaabna, ghk20naaaaaaaaabnba, ghk20naaaaaaaaabnbb, ghk20naaaaaaaabn, ghk20naaaaaaabn, ghk20naaaaaabn, ghk20naaaaabn, ghk20naaaabn, ghk20naaabn, ghk20naaba, ghk20nabn, ghk20nbna, ghk20nbnba, ghk20nbnbb] at hk21
                    all_goals
                    obtain rfl := so_some h
                    refine ⟨0, fun L hL => ?_⟩
                    simp only [go_sem, ir3, fhk1, hk2, fhk3, fhk4, fhk5, fhk6, fhk7, fhk8, fhk9, fhk10, fhk11, fhk12, fhk13, fhk14, fhk15, fhk16, fhk17, ghk18, hhk18, fhk18, ghk19, hhk19, fhk19, ghk20naaaaaaaaaan, ghk20naaaaaaaaabna, ghk20naaaaaaaaabnba, ghk20naaaaaaaaabnbb, ghk20naaaaaaaabn, ghk20naaaaaaabn, ghk20naaaaaabn, ghk20naaaaabn, ghk20naaaabn, ghk20naaabn, ghk20naaba, ghk20nabn, ghk20nbna, ghk20nbnba, ghk20nbnbb, hk21]
                  · try simp only [go_sem, n1, n2, n3, n4, hk2, ghk18, hhk18, ghk19, hhk19, ghk20naaaaaaaaaan, ghk20naaaaaaaaabna, ghk20naaaaaaaaabnba, ghk20naaaaaaaaabnbb, ghk20naaaaaaaabn, ghk20naaaaaaabn, ghk20naaaaaabn, ghk20naaaaabn, ghk20naaaabn, ghk20naaabn, ghk20naaba, ghk20nabn, ghk20nbna, ghk20nbnba, ghk20nbnbb] at hk21
                    all_goals
                    rcases it_some h with ⟨hk22, h⟩ | ⟨hk22, h⟩
                    · try simp only [go_sem, n1, n2, n3, n4, hk2, ghk18, hhk18, ghk19, hhk19, ghk20naaaaaaaaaan, ghk20naaaaaaaaabna, ghk20naaaaaaaaabnba, ghk20naaaaaaaaabnbb, ghk20naaaaaaaabn, ghk20naaaaaaabn, ghk20naaaaaabn, ghk20naaaaabn, ghk20naaaabn, ghk20naaabn, ghk20naaba, ghk20nabn, ghk20nbna, ghk20nbnba, ghk20nbnbb, hk21] at hk22
                      all_goals
                      obtain ⟨y_23, hk23, h⟩ := bd_some h
                      have fhk23 := Fs_impl_DateOf hk23
                      try simp only [go_sem, hk2, ghk18, hhk18, ghk19, hhk19, ghk20naaaaaaaaaan, ghk20naaaaaaaaabna, ghk20naaaaaaaaabnba, ghk20naaaaaaaaabnbb, ghk20naaaaaaaabn, ghk20naaaaaaabn, ghk20naaaaaabn, ghk20naaaaabn, ghk20naaaabn, ghk20naaabn, ghk20naaba, ghk20nabn, ghk20nbna, ghk20nbnba, ghk20nbnbb, hk21, hk22] at fhk23
                      rcases it_some h with ⟨hk24, h⟩ | ⟨hk24, h⟩
                      · try simp only [go_sem, n1, n2, n3, n4, hk2, ghk18, hhk18, ghk19, hhk19, ghk20naaaaaaaaaan, ghk20naaaaaaaaabna, ghk20naaaaaaaaabnba, ghk20naaaaaaaaabnbb, ghk20naaaaaaaabn, ghk20naaaaaaabn, ghk20naaaaaabn, ghk20naaaaabn, ghk20naaaabn, ghk20naaabn, ghk20naaba, ghk20nabn, ghk20nbna, ghk20nbnba, ghk20nbnbb, hk21, hk22] at hk24
                        all_goals
                        obtain rfl := so_some h
                        refine ⟨0, fun L hL => ?_⟩
                        simp only [go_sem, ir3, fhk1, hk2, fhk3, fhk4, fhk5, fhk6, fhk7, fhk8, fhk9, fhk10, fhk11, fhk12, fhk13, fhk14, fhk15, fhk16, fhk17, ghk18, hhk18, fhk18, ghk19, hhk19, fhk19, ghk20naaaaaaaaaan, ghk20naaaaaaaaabna, ghk20naaaaaaaaabnba, ghk20naaaaaaaaabnbb, ghk20naaaaaaaabn, ghk20naaaaaaabn, ghk20naaaaaabn, ghk20naaaaabn, ghk20naaaabn, ghk20naaabn, ghk20naaba, ghk20nabn, ghk20nbna, ghk20nbnba, ghk20nbnbb, hk21, hk22, fhk23, hk24]
                      · try simp only [go_sem, n1, n2, n3, n4, hk2, ghk18, hhk18, ghk19, hhk19, ghk20naaaaaaaaaan, ghk20naaaaaaaaabna, ghk20naaaaaaaaabnba, ghk20naaaaaaaaabnbb, ghk20naaaaaaaabn, ghk20naaaaaaabn, ghk20naaaaaabn, ghk20naaaaabn, ghk20naaaabn, ghk20naaabn, ghk20naaba, ghk20nabn, ghk20nbna, ghk20nbnba, ghk20nbnbb, hk21, hk22] at hk24
                        all_goals
                        rcases it_some h with ⟨hk25, h⟩ | ⟨hk25, h⟩
                        · try simp only [go_sem, n1, n2, n3, n4, hk2, ghk18, hhk18, ghk19, hhk19, ghk20naaaaaaaaaan, ghk20naaaaaaaaabna, ghk20naaaaaaaaabnba, ghk20naaaaaaaaabnbb, ghk20naaaaaaaabn, ghk20naaaaaaabn, ghk20naaaaaabn, ghk20naaaaabn, ghk20naaaabn, ghk20naaabn, ghk20naaba, ghk20nabn, ghk20nbna, ghk20nbnba, ghk20nbnbb, hk21, hk22, hk24] at hk25
                          all_goals
                          obtain rfl := so_some h
                          refine ⟨0, fun L hL => ?_⟩
                          simp only [go_sem, ir3, fhk1, hk2, fhk3, fhk4, fhk5, fhk6, fhk7, fhk8, fhk9, fhk10, fhk11, fhk12, fhk13, fhk14, fhk15, fhk16, fhk17, ghk18, hhk18, fhk18, ghk19, hhk19, fhk19, ghk20naaaaaaaaaan, ghk20naaaaaaaaabna, ghk20naaaaaaaaabnba, ghk20naaaaaaaaabnbb, ghk20naaaaaaaabn, ghk20naaaaaaabn, ghk20naaaaaabn, ghk20naaaaabn, ghk20naaaabn, ghk20naaabn, ghk20naaba, ghk20nabn, ghk20nbna, ghk20nbnba, ghk20nbnbb, hk21, hk22, fhk23, hk24, hk25]
                        · try simp only [go_sem, n1, n2, n3, n4, hk2, ghk18, hhk18, ghk19, hhk19, ghk20naaaaaaaaaan, ghk20naaaaaaaaabna, ghk20naaaaaaaaabnba, ghk20naaaaaaaaabnbb, ghk20naaaaaaaabn, ghk20naaaaaaabn, ghk20naaaaaabn, ghk20naaaaabn, ghk20naaaabn, ghk20naaabn, ghk20naaba, ghk20nabn, ghk20nbna, ghk20nbnba, ghk20nbnbb, hk21, hk22, hk24] at hk25
                          all_goals
                          obtain ⟨y_26, hk26, h⟩ := bd_some h
                          have fhk26 := Fs_impl_DayNumber hk26
                          try simp only [go_sem, hk2, ghk18, hhk18, ghk19, hhk19, ghk20naaaaaaaaaan, ghk20naaaaaaaaabna, ghk20naaaaaaaaabnba, ghk20naaaaaaaaabnbb, ghk20naaaaaaaabn, ghk20naaaaaaabn, ghk20naaaaaabn, ghk20naaaaabn, ghk20naaaabn, ghk20naaabn, ghk20naaba, ghk20nabn, ghk20nbna, ghk20nbnba, ghk20nbnbb, hk21, hk22, hk24, hk25] at fhk26
                          obtain ⟨hk27, h⟩ := ck_some h
                          rcases or_split hk27 with ⟨ghk27, hk27⟩ | ghk27
                          · try simp only [go_sem, n1, n2, n3, n4, hk2, ghk18, hhk18, ghk19, hhk19, ghk20naaaaaaaaaan, ghk20naaaaaaaaabna, ghk20naaaaaaaaabnba, ghk20naaaaaaaaabnbb, ghk20naaaaaaaabn, ghk20naaaaaaabn, ghk20naaaaaabn, ghk20naaaaabn, ghk20naaaabn, ghk20naaabn, ghk20naaba, ghk20nabn, ghk20nbna, ghk20nbnba, ghk20nbnbb, hk21, hk22, hk24, hk25] at ghk27
                            all_goals
                            obtain ⟨y_27, hhk27⟩ := Option.isSome_iff_exists.1 hk27
                            have fhk27 := Fs_impl_ValidDate hhk27
                            try simp only [go_sem, n1, n2, n3, n4, hk2, ghk18, hhk18, ghk19, hhk19, ghk20naaaaaaaaaan, ghk20naaaaaaaaabna, ghk20naaaaaaaaabnba, ghk20naaaaaaaaabnbb, ghk20naaaaaaaabn, ghk20naaaaaaabn, ghk20naaaaaabn, ghk20naaaaabn, ghk20naaaabn, ghk20naaabn, ghk20naaba, ghk20nabn, ghk20nbna, ghk20nbnba, ghk20nbnbb, hk21, hk22, hk24, hk25, ghk27] at hhk27
                            all_goals
                            try simp only [go_sem, hk2, ghk18, hhk18, ghk19, hhk19, ghk20naaaaaaaaaan, ghk20naaaaaaaaabna, ghk20naaaaaaaaabnba, ghk20naaaaaaaaabnbb, ghk20naaaaaaaabn, ghk20naaaaaaabn, ghk20naaaaaabn, ghk20naaaaabn, ghk20naaaabn, ghk20naaabn, ghk20naaba, ghk20nabn, ghk20nbna, ghk20nbnba, ghk20nbnbb, hk21, hk22, hk24, hk25, ghk27] at fhk27
                            rcases it_some h with ⟨hk28, h⟩ | ⟨hk28, h⟩
                            · try simp only [go_sem, n1, n2, n3, n4, hk2, ghk18, hhk18, ghk19, hhk19, ghk20naaaaaaaaaan, ghk20naaaaaaaaabna, ghk20naaaaaaaaabnba, ghk20naaaaaaaaabnbb, ghk20naaaaaaaabn, ghk20naaaaaaabn, ghk20naaaaaabn, ghk20naaaaabn, ghk20naaaabn, ghk20naaabn, ghk20naaba, ghk20nabn, ghk20nbna, ghk20nbnba, ghk20nbnbb, hk21, hk22, hk24, hk25, ghk27, hhk27] at hk28
                              all_goals
                              obtain rfl := so_some h
                              refine ⟨0, fun L hL => ?_⟩
                              simp only [go_sem, ir3, fhk1, hk2, fhk3, fhk4, fhk5, fhk6, fhk7, fhk8, fhk9, fhk10, fhk11, fhk12, fhk13, fhk14, fhk15, fhk16, fhk17, ghk18, hhk18, fhk18, ghk19, hhk19, fhk19, ghk20naaaaaaaaaan, ghk20naaaaaaaaabna, ghk20naaaaaaaaabnba, ghk20naaaaaaaaabnbb, ghk20naaaaaaaabn, ghk20naaaaaaabn, ghk20naaaaaabn, ghk20naaaaabn, ghk20naaaabn, ghk20naaabn, ghk20naaba, ghk20nabn, ghk20nbna, ghk20nbnba, ghk20nbnbb, hk21, hk22, fhk23, hk24, hk25, fhk26, ghk27, hhk27, fhk27, hk28]
                            · try simp only [go_sem, n1, n2, n3, n4, hk2, ghk18, hhk18, ghk19, hhk19, ghk20naaaaaaaaaan, ghk20naaaaaaaaabna, ghk20naaaaaaaaabnba, ghk20naaaaaaaaabnbb, ghk20naaaaaaaabn, ghk20naaaaaaabn, ghk20naaaaaabn, ghk20naaaaabn, ghk20naaaabn, ghk20naaabn, ghk20naaba, ghk20nabn, ghk20nbna, ghk20nbnba, ghk20nbnbb, hk21, hk22, hk24, hk25, ghk27, hhk27] at hk28
                              all_goals
                              rcases it_some h with ⟨hk29, h⟩ | ⟨hk29, h⟩
                              · try simp only [go_sem, n1, n2, n3, n4, hk2, ghk18, hhk18, ghk19, hhk19, ghk20naaaaaaaaaan, ghk20naaaaaaaaabna, ghk20naaaaaaaaabnba, ghk20naaaaaaaaabnbb, ghk20naaaaaaaabn, ghk20naaaaaaabn, ghk20naaaaaabn, ghk20naaaaabn, ghk20naaaabn, ghk20naaabn, ghk20naaba, ghk20nabn, ghk20nbna, ghk20nbnba, ghk20nbnbb, hk21, hk22, hk24, hk25, ghk27, hhk27, hk28] at hk29
                                all_goals
                                obtain rfl := so_some h
                                refine ⟨0, fun L hL => ?_⟩
                                simp only [go_sem, ir3, fhk1, hk2, fhk3, fhk4, fhk5, fhk6, fhk7, fhk8, fhk9, fhk10, fhk11, fhk12, fhk13, fhk14, fhk15, fhk16, fhk17, ghk18, hhk18, fhk18, ghk19, hhk19, fhk19, ghk20naaaaaaaaaan, ghk20naaaaaaaaabna, ghk20naaaaaaaaabnba, ghk20naaaaaaaaabnbb, ghk20naaaaaaaabn, ghk20naaaaaaabn, ghk20naaaaaabn, ghk20naaaaabn, ghk20naaaabn, ghk20naaabn, ghk20naaba, ghk20nabn, ghk20nbna, ghk20nbnba, ghk20nbnbb, hk21, hk22, fhk23, hk24, hk25, fhk26, ghk27, hhk27, fhk27, hk28, hk29]
                              · try simp only [go_sem, n1, n2, n3, n4, hk2, ghk18, hhk18, ghk19, hhk19, ghk20naaaaaaaaaan, ghk20naaaaaaaaabna, ghk20naaaaaaaaabnba, ghk20naaaaaaaaabnbb, ghk20naaaaaaaabn, ghk20naaaaaaabn, ghk20naaaaaabn, ghk20naaaaabn, ghk20naaaabn, ghk20naaabn, ghk20naaba, ghk20nabn, ghk20nbna, ghk20nbnba, ghk20nbnbb, hk21, hk22, hk24, hk25, ghk27, hhk27, hk28] at hk29
                                all_goals
                                obtain ⟨y_30, hk30, h⟩ := bd_some h
                                have fhk30 := Fs_impl_DateOf hk30
                                try simp only [go_sem, hk2, ghk18, hhk18, ghk19, hhk19, ghk20naaaaaaaaaan, ghk20naaaaaaaaabna, ghk20naaaaaaaaabnba, ghk20naaaaaaaaabnbb, ghk20naaaaaaaabn, ghk20naaaaaaabn, ghk20naaaaaabn, ghk20naaaaabn, ghk20naaaabn, ghk20naaabn, ghk20naaba, ghk20nabn, ghk20nbna, ghk20nbnba, ghk20nbnbb, hk21, hk22, hk24, hk25, ghk27, hhk27, hk28, hk29] at fhk30
                                obtain rfl := so_some h
                                refine ⟨0, fun L hL => ?_⟩
                                simp only [go_sem, ir3, fhk1, hk2, fhk3, fhk4, fhk5, fhk6, fhk7, fhk8, fhk9, fhk10, fhk11, fhk12, fhk13, fhk14, fhk15, fhk16, fhk17, ghk18, hhk18, fhk18, ghk19, hhk19, fhk19, ghk20naaaaaaaaaan, ghk20naaaaaaaaabna, ghk20naaaaaaaaabnba, ghk20naaaaaaaaabnbb, ghk20naaaaaaaabn, ghk20naaaaaaabn, ghk20naaaaaabn, ghk20naaaaabn, ghk20naaaabn, ghk20naaabn, ghk20naaba, ghk20nabn, ghk20nbna, ghk20nbnba, ghk20nbnbb, hk21, hk22, fhk23, hk24, hk25, fhk26, ghk27, hhk27, fhk27, hk28, hk29, fhk30]
                          · have ghk27n := no_f ghk27
                            rcases or_t ghk27n with ghk27na | ⟨ghk27na, ghk27nb⟩
                            · have ghk27nan := no_t ghk27na
                              try simp only [go_sem, n1, n2, n3, n4, hk2, ghk18, hhk18, ghk19, hhk19, ghk20naaaaaaaaaan, ghk20naaaaaaaaabna, ghk20naaaaaaaaabnba, ghk20naaaaaaaaabnbb, ghk20naaaaaaaabn, ghk20naaaaaaabn, ghk20naaaaaabn, ghk20naaaaabn, ghk20naaaabn, ghk20naaabn, ghk20naaba, ghk20nabn, ghk20nbna, ghk20nbnba, ghk20nbnbb, hk21, hk22, hk24, hk25] at ghk27nan
                              all_goals
                              rcases it_some h with ⟨hk28, h⟩ | ⟨hk28, h⟩
                              · try simp only [go_sem, n1, n2, n3, n4, hk2, ghk18, hhk18, ghk19, hhk19, ghk20naaaaaaaaaan, ghk20naaaaaaaaabna, ghk20naaaaaaaaabnba, ghk20naaaaaaaaabnbb, ghk20naaaaaaaabn, ghk20naaaaaaabn, ghk20naaaaaabn, ghk20naaaaabn, ghk20naaaabn, ghk20naaabn, ghk20naaba, ghk20nabn, ghk20nbna, ghk20nbnba, ghk20nbnbb, hk21, hk22, hk24, hk25, ghk27nan] at hk28
                                all_goals
                                obtain rfl := so_some h
                                refine ⟨0, fun L hL => ?_⟩
                                simp only [go_sem, ir3, fhk1, hk2, fhk3, fhk4, fhk5, fhk6, fhk7, fhk8, fhk9, fhk10, fhk11, fhk12, fhk13, fhk14, fhk15, fhk16, fhk17, ghk18, hhk18, fhk18, ghk19, hhk19, fhk19, ghk20naaaaaaaaaan, ghk20naaaaaaaaabna, ghk20naaaaaaaaabnba, ghk20naaaaaaaaabnbb, ghk20naaaaaaaabn, ghk20naaaaaaabn, ghk20naaaaaabn, ghk20naaaaabn, ghk20naaaabn, ghk20naaabn, ghk20naaba, ghk20nabn, ghk20nbna, ghk20nbnba, ghk20nbnbb, hk21, hk22, fhk23, hk24, hk25, fhk26, ghk27nan, hk28]
                              · try simp only [go_sem, n1, n2, n3, n4, hk2, ghk18, hhk18, ghk19, hhk19, ghk20naaaaaaaaaan, ghk20naaaaaaaaabna, ghk20naaaaaaaaabnba, ghk20naaaaaaaaabnbb, ghk20naaaaaaaabn, ghk20naaaaaaabn, ghk20naaaaaabn, ghk20naaaaabn, ghk20naaaabn, ghk20naaabn, ghk20naaba, ghk20nabn, ghk20nbna, ghk20nbnba, ghk20nbnbb, hk21, hk22, hk24, hk25, ghk27nan] at hk28
                                all_goals
                                (simp_all)
                            · have ghk27nan := no_f ghk27na
                              have ghk27nbn := no_t ghk27nb
                              try simp only [go_sem, n1, n2, n3, n4, hk2, ghk18, hhk18, ghk19, hhk19, ghk20naaaaaaaaaan, ghk20naaaaaaaaabna, ghk20naaaaaaaaabnba, ghk20naaaaaaaaabnbb, ghk20naaaaaaaabn, ghk20naaaaaaabn, ghk20naaaaaabn, ghk20naaaaabn, ghk20naaaabn, ghk20naaabn, ghk20naaba, ghk20nabn, ghk20nbna, ghk20nbnba, ghk20nbnbb, hk21, hk22, hk24, hk25] at ghk27nan
                              all_goals
                              try simp only [go_sem, n1, n2, n3, n4, hk2, ghk18, hhk18, ghk19, hhk19, ghk20naaaaaaaaaan, ghk20naaaaaaaaabna, ghk20naaaaaaaaabnba, ghk20naaaaaaaaabnbb, ghk20naaaaaaaabn, ghk20naaaaaaabn, ghk20naaaaaabn, ghk20naaaaabn, ghk20naaaabn, ghk20naaabn, ghk20naaba, ghk20nabn, ghk20nbna, ghk20nbnba, ghk20nbnbb, hk21, hk22, hk24, hk25, ghk27nan] at ghk27nbn
                              all_goals
                              rcases it_some h with ⟨hk28, h⟩ | ⟨hk28, h⟩
                              · try simp only [go_sem, n1, n2, n3, n4, hk2, ghk18, hhk18, ghk19, hhk19, ghk20naaaaaaaaaan, ghk20naaaaaaaaabna, ghk20naaaaaaaaabnba, ghk20naaaaaaaaabnbb, ghk20naaaaaaaabn, ghk20naaaaaaabn, ghk20naaaaaabn, ghk20naaaaabn, ghk20naaaabn, ghk20naaabn, ghk20naaba, ghk20nabn, ghk20nbna, ghk20nbnba, ghk20nbnbb, hk21, hk22, hk24, hk25, ghk27nan, ghk27nbn] at hk28
                                all_goals
                                obtain rfl := so_some h
                                refine ⟨0, fun L hL => ?_⟩
                                simp only [go_sem, ir3, fhk1, hk2, fhk3, fhk4, fhk5, fhk6, fhk7, fhk8, fhk9, fhk10, fhk11, fhk12, fhk13, fhk14, fhk15, fhk16, fhk17, ghk18, hhk18, fhk18, ghk19, hhk19, fhk19, ghk20naaaaaaaaaan, ghk20naaaaaaaaabna, ghk20naaaaaaaaabnba, ghk20naaaaaaaaabnbb, ghk20naaaaaaaabn, ghk20naaaaaaabn, ghk20naaaaaabn, ghk20naaaaabn, ghk20naaaabn, ghk20naaabn, ghk20naaba, ghk20nabn, ghk20nbna, ghk20nbnba, ghk20nbnbb, hk21, hk22, fhk23, hk24, hk25, fhk26, ghk27nan, ghk27nbn, hk28]
                              · try simp only [go_sem, n1, n2, n3, n4, hk2, ghk18, hhk18, ghk19, hhk19, ghk20naaaaaaaaaan, ghk20naaaaaaaaabna, ghk20naaaaaaaaabnba, ghk20naaaaaaaaabnbb, ghk20naaaaaaaabn, ghk20naaaaaaabn, ghk20naaaaaabn, ghk20naaaaabn, ghk20naaaabn, ghk20naaabn, ghk20naaba, ghk20nabn, ghk20nbna, ghk20nbnba, ghk20nbnbb, hk21, hk22, hk24, hk25, ghk27nan, ghk27nbn] at hk28
                                all_goals
                                (simp_all)
                    · try simp only [go_sem, n1, n2, n3, n4, hk2, ghk18, hhk18, ghk19, hhk19, ghk20naaaaaaaaaan, ghk20naaaaaaaaabna, ghk20naaaaaaaaabnba, ghk20naaaaaaaaabnbb, ghk20naaaaaaaabn, ghk20naaaaaaabn, ghk20naaaaaabn, ghk20naaaaabn, ghk20naaaabn, ghk20naaabn, ghk20naaba, ghk20nabn, ghk20nbna, ghk20nbnba, ghk20nbnbb, hk21] at hk22
                      all_goals
                      rcases it_some h with ⟨hk31, h⟩ | ⟨hk31, h⟩
                      · try simp only [go_sem, n1, n2, n3, n4, hk2, ghk18, hhk18, ghk19, hhk19, ghk20naaaaaaaaaan, ghk20naaaaaaaaabna, ghk20naaaaaaaaabnba, ghk20naaaaaaaaabnbb, ghk20naaaaaaaabn, ghk20naaaaaaabn, ghk20naaaaaabn, ghk20naaaaabn, ghk20naaaabn, ghk20naaabn, ghk20naaba, ghk20nabn, ghk20nbna, ghk20nbnba, ghk20nbnbb, hk21, hk22] at hk31
                        all_goals
                        obtain rfl := so_some h
                        refine ⟨0, fun L hL => ?_⟩
                        simp only [go_sem, ir3, fhk1, hk2, fhk3, fhk4, fhk5, fhk6, fhk7, fhk8, fhk9, fhk10, fhk11, fhk12, fhk13, fhk14, fhk15, fhk16, fhk17, ghk18, hhk18, fhk18, ghk19, hhk19, fhk19, ghk20naaaaaaaaaan, ghk20naaaaaaaaabna, ghk20naaaaaaaaabnba, ghk20naaaaaaaaabnbb, ghk20naaaaaaaabn, ghk20naaaaaaabn, ghk20naaaaaabn, ghk20naaaaabn, ghk20naaaabn, ghk20naaabn, ghk20naaba, ghk20nabn, ghk20nbna, ghk20nbnba, ghk20nbnbb, hk21, hk22, hk31]
                      · try simp only [go_sem, n1, n2, n3, n4, hk2, ghk18, hhk18, ghk19, hhk19, ghk20naaaaaaaaaan, ghk20naaaaaaaaabna, ghk20naaaaaaaaabnba, ghk20naaaaaaaaabnbb, ghk20naaaaaaaabn, ghk20naaaaaaabn, ghk20naaaaaabn, ghk20naaaaabn, ghk20naaaabn, ghk20naaabn, ghk20naaba, ghk20nabn, ghk20nbna, ghk20nbnba, ghk20nbnbb, hk21, hk22] at hk31
                        all_goals
                        obtain ⟨y_32, hk32, h⟩ := bd_some h
                        have fhk32 := Fs_impl_DayNumber hk32
                        try simp only [go_sem, hk2, ghk18, hhk18, ghk19, hhk19, ghk20naaaaaaaaaan, ghk20naaaaaaaaabna, ghk20naaaaaaaaabnba, ghk20naaaaaaaaabnbb, ghk20naaaaaaaabn, ghk20naaaaaaabn, ghk20naaaaaabn, ghk20naaaaabn, ghk20naaaabn, ghk20naaabn, ghk20naaba, ghk20nabn, ghk20nbna, ghk20nbnba, ghk20nbnbb, hk21, hk22, hk31] at fhk32
                        obtain ⟨hk33, h⟩ := ck_some h
                        rcases or_split hk33 with ⟨ghk33, hk33⟩ | ghk33
                        · try simp only [go_sem, n1, n2, n3, n4, hk2, ghk18, hhk18, ghk19, hhk19, ghk20naaaaaaaaaan, ghk20naaaaaaaaabna, ghk20naaaaaaaaabnba, ghk20naaaaaaaaabnbb, ghk20naaaaaaaabn, ghk20naaaaaaabn, ghk20naaaaaabn, ghk20naaaaabn, ghk20naaaabn, ghk20naaabn, ghk20naaba, ghk20nabn, ghk20nbna, ghk20nbnba, ghk20nbnbb, hk21, hk22, hk31] at ghk33
                          all_goals
                          obtain ⟨y_33, hhk33⟩ := Option.isSome_iff_exists.1 hk33
                          have fhk33 := Fs_impl_ValidDate hhk33
                          try simp only [go_sem, n1, n2, n3, n4, hk2, ghk18, hhk18, ghk19, hhk19, ghk20naaaaaaaaaan, ghk20naaaaaaaaabna, ghk20naaaaaaaaabnba, ghk20naaaaaaaaabnbb, ghk20naaaaaaaabn, ghk20naaaaaaabn, ghk20naaaaaabn, ghk20naaaaabn, ghk20naaaabn, ghk20naaabn, ghk20naaba, ghk20nabn, ghk20nbna, ghk20nbnba, ghk20nbnbb, hk21, hk22, hk31, ghk33] at hhk33
                          all_goals
                          try simp only [go_sem, hk2, ghk18, hhk18, ghk19, hhk19, ghk20naaaaaaaaaan, ghk20naaaaaaaaabna, ghk20naaaaaaaaabnba, ghk20naaaaaaaaabnbb, ghk20naaaaaaaabn, ghk20naaaaaaabn, ghk20naaaaaabn, ghk20naaaaabn, ghk20naaaabn, ghk20naaabn, ghk20naaba, ghk20nabn, ghk20nbna, ghk20nbnba, ghk20nbnbb, hk21, hk22, hk31, ghk33] at fhk33
                          rcases it_some h with ⟨hk34, h⟩ | ⟨hk34, h⟩
                          · try simp only [go_sem, n1, n2, n3, n4, hk2, ghk18, hhk18, ghk19, hhk19, ghk20naaaaaaaaaan, ghk20naaaaaaaaabna, ghk20naaaaaaaaabnba, ghk20naaaaaaaaabnbb, ghk20naaaaaaaabn, ghk20naaaaaaabn, ghk20naaaaaabn, ghk20naaaaabn, ghk20naaaabn, ghk20naaabn, ghk20naaba, ghk20nabn, ghk20nbna, ghk20nbnba, ghk20nbnbb, hk21, hk22, hk31, ghk33, hhk33] at hk34
                            all_goals
                            obtain rfl := so_some h
                            refine ⟨0, fun L hL => ?_⟩
                            simp only [go_sem, ir3, fhk1, hk2, fhk3, fhk4, fhk5, fhk6, fhk7, fhk8, fhk9, fhk10, fhk11, fhk12, fhk13, fhk14, fhk15, fhk16, fhk17, ghk18, hhk18, fhk18, ghk19, hhk19, fhk19, ghk20naaaaaaaaaan, ghk20naaaaaaaaabna, ghk20naaaaaaaaabnba, ghk20naaaaaaaaabnbb, ghk20naaaaaaaabn, ghk20naaaaaaabn, ghk20naaaaaabn, ghk20naaaaabn, ghk20naaaabn, ghk20naaabn, ghk20naaba, ghk20nabn, ghk20nbna, ghk20nbnba, ghk20nbnbb, hk21, hk22, hk31, fhk32, ghk33, hhk33, fhk33, hk34]
                          · try simp only [go_sem, n1, n2, n3, n4, hk2, ghk18, hhk18, ghk19, hhk19, ghk20naaaaaaaaaan, ghk20naaaaaaaaabna, ghk20naaaaaaaaabnba, ghk20naaaaaaaaabnbb, ghk20naaaaaaaabn, ghk20naaaaaaabn, ghk20naaaaaabn, ghk20naaaaabn, ghk20naaaabn, ghk20naaabn, ghk20naaba, ghk20nabn, ghk20nbna, ghk20nbnba, ghk20nbnbb, hk21, hk22, hk31, ghk33, hhk33] at hk34
                            all_goals
                            rcases it_some h with ⟨hk35, h⟩ | ⟨hk35, h⟩
                            · try simp only [go_sem, n1, n2, n3, n4, hk2, ghk18, hhk18, ghk19, hhk19, ghk20naaaaaaaaaan, ghk20naaaaaaaaabna, ghk20naaaaaaaaabnba, ghk20naaaaaaaaabnbb, ghk20naaaaaaaabn, ghk20naaaaaaabn, ghk20naaaaaabn, ghk20naaaaabn, ghk20naaaabn, ghk20naaabn, ghk20naaba, ghk20nabn, ghk20nbna, ghk20nbnba, ghk20nbnbb, hk21, hk22, hk31, ghk33, hhk33, hk34] at hk35
                              all_goals
                              obtain rfl := so_some h
                              refine ⟨0, fun L hL => ?_⟩
                              simp only [go_sem, ir3, fhk1, hk2, fhk3, fhk4, fhk5, fhk6, fhk7, fhk8, fhk9, fhk10, fhk11, fhk12, fhk13, fhk14, fhk15, fhk16, fhk17, ghk18, hhk18, fhk18, ghk19, hhk19, fhk19, ghk20naaaaaaaaaan, ghk20naaaaaaaaabna, ghk20naaaaaaaaabnba, ghk20naaaaaaaaabnbb, ghk20naaaaaaaabn, ghk20naaaaaaabn, ghk20naaaaaabn, ghk20naaaaabn, ghk20naaaabn, ghk20naaabn, ghk20naaba, ghk20nabn, ghk20nbna, ghk20nbnba, ghk20nbnbb, hk21, hk22, hk31, fhk32, ghk33, hhk33, fhk33, hk34, hk35]
                            · try simp only [go_sem, n1, n2, n3, n4, hk2, ghk18, hhk18, ghk19, hhk19, ghk20naaaaaaaaaan, ghk20naaaaaaaaabna, ghk20naaaaaaaaabnba, ghk20naaaaaaaaabnbb, ghk20naaaaaaaabn, ghk20naaaaaaabn, ghk20naaaaaabn, ghk20naaaaabn, ghk20naaaabn, ghk20naaabn, ghk20naaba, ghk20nabn, ghk20nbna, ghk20nbnba, ghk20nbnbb, hk21, hk22, hk31, ghk33, hhk33, hk34] at hk35
                              all_goals
                              obtain ⟨y_36, hk36, h⟩ := bd_some h
                              have fhk36 := Fs_impl_DateOf hk36
                              try simp only [go_sem, hk2, ghk18, hhk18, ghk19, hhk19, ghk20naaaaaaaaaan, ghk20naaaaaaaaabna, ghk20naaaaaaaaabnba, ghk20naaaaaaaaabnbb, ghk20naaaaaaaabn, ghk20naaaaaaabn, ghk20naaaaaabn, ghk20naaaaabn, ghk20naaaabn, ghk20naaabn, ghk20naaba, ghk20nabn, ghk20nbna, ghk20nbnba, ghk20nbnbb, hk21, hk22, hk31, ghk33, hhk33, hk34, hk35] at fhk36
                              obtain rfl := so_some h
                              refine ⟨0, fun L hL => ?_⟩
                              simp only [go_sem, ir3, fhk1, hk2, fhk3, fhk4, fhk5, fhk6, fhk7, fhk8, fhk9, fhk10, fhk11, fhk12, fhk13, fhk14, fhk15, fhk16, fhk17, ghk18, hhk18, fhk18, ghk19, hhk19, fhk19, ghk20naaaaaaaaaan, ghk20naaaaaaaaabna, ghk20naaaaaaaaabnba, ghk20naaaaaaaaabnbb, ghk20naaaaaaaabn, ghk20naaaaaaabn, ghk20naaaaaabn, ghk20naaaaabn, ghk20naaaabn, ghk20naaabn, ghk20naaba, ghk20nabn, ghk20nbna, ghk20nbnba, ghk20nbnbb, hk21, hk22, hk31, fhk32, ghk33, hhk33, fhk33, hk34, hk35, fhk36]
                        · have ghk33n := no_f ghk33
                          rcases or_t ghk33n with ghk33na | ⟨ghk33na, ghk33nb⟩
                          · have ghk33nan := no_t ghk33na
                            try simp only [go_sem, n1, n2, n3, n4, hk2, ghk18, hhk18, ghk19, hhk19, ghk20naaaaaaaaaan, ghk20naaaaaaaaabna, ghk20naaaaaaaaabnba, ghk20naaaaaaaaabnbb, ghk20naaaaaaaabn, ghk20naaaaaaabn, ghk20naaaaaabn, ghk20naaaaabn, ghk20naaaabn, ghk20naaabn, ghk20naaba, ghk20nabn, ghk20nbna, ghk20nbnba, ghk20nbnbb, hk21, hk22, hk31] at ghk33nan
                            all_goals
                            rcases it_some h with ⟨hk34, h⟩ | ⟨hk34, h⟩
                            · try simp only [go_sem, n1, n2, n3, n4, hk2, ghk18, hhk18, ghk19, hhk19, ghk20naaaaaaaaaan, ghk20naaaaaaaaabna, ghk20naaaaaaaaabnba, ghk20naaaaaaaaabnbb, ghk20naaaaaaaabn, ghk20naaaaaaabn, ghk20naaaaaabn, ghk20naaaaabn, ghk20naaaabn, ghk20naaabn, ghk20naaba, ghk20nabn, ghk20nbna, ghk20nbnba, ghk20nbnbb, hk21, hk22, hk31, ghk33nan] at hk34
                              all_goals
                              obtain rfl := so_some h
                              refine ⟨0, fun L hL => ?_⟩
                              simp only [go_sem, ir3, fhk1, hk2, fhk3, fhk4, fhk5, fhk6, fhk7, fhk8, fhk9, fhk10, fhk11, fhk12, fhk13, fhk14, fhk15, fhk16, fhk17, ghk18, hhk18, fhk18, ghk19, hhk19, fhk19, ghk20naaaaaaaaaan, ghk20naaaaaaaaabna, ghk20naaaaaaaaabnba, ghk20naaaaaaaaabnbb, ghk20naaaaaaaabn, ghk20naaaaaaabn, ghk20naaaaaabn, ghk20naaaaabn, ghk20naaaabn, ghk20naaabn, ghk20naaba, ghk20nabn, ghk20nbna, ghk20nbnba, ghk20nbnbb, hk21, hk22, hk31, fhk32, ghk33nan, hk34]
                            · try simp only [go_sem, n1, n2, n3, n4, hk2, ghk18, hhk18, ghk19, hhk19, ghk20naaaaaaaaaan, ghk20naaaaaaaaabna, ghk20naaaaaaaaabnba, ghk20naaaaaaaaabnbb, ghk20naaaaaaaabn, ghk20naaaaaaabn, ghk20naaaaaabn, ghk20naaaaabn, ghk20naaaabn, ghk20naaabn, ghk20naaba, ghk20nabn, ghk20nbna, ghk20nbnba, ghk20nbnbb, hk21, hk22, hk31, ghk33nan] at hk34
                              all_goals
                              (simp_all)
                          · have ghk33nan := no_f ghk33na
                            have ghk33nbn := no_t ghk33nb
                            try simp only [go_sem, n1, n2, n3, n4, hk2, ghk18, hhk18, ghk19, hhk19, ghk20naaaaaaaaaan, ghk20naaaaaaaaabna, ghk20naaaaaaaaabnba, ghk20naaaaaaaaabnbb, ghk20naaaaaaaabn, ghk20naaaaaaabn, ghk20naaaaaabn, ghk20naaaaabn, ghk20naaaabn, ghk20naaabn, ghk20naaba, ghk20nabn, ghk20nbna, ghk20nbnba, ghk20nbnbb, hk21, hk22, hk31] at ghk33nan
                            all_goals
                            try simp only [go_sem, n1, n2, n3, n4, hk2, ghk18, hhk18, ghk19, hhk19, ghk20naaaaaaaaaan, ghk20naaaaaaaaabna, ghk20naaaaaaaaabnba, ghk20naaaaaaaaabnbb, ghk20naaaaaaaabn, ghk20naaaaaaabn, ghk20naaaaaabn, ghk20naaaaabn, ghk20naaaabn, ghk20naaabn, ghk20naaba, ghk20nabn, ghk20nbna, ghk20nbnba, ghk20nbnbb, hk21, hk22, hk31, ghk33nan] at ghk33nbn
                            all_goals
                            rcases it_some h with ⟨hk34, h⟩ | ⟨hk34, h⟩
                            · try simp only [go_sem, n1, n2, n3, n4, hk2, ghk18, hhk18, ghk19, hhk19, ghk20naaaaaaaaaan, ghk20naaaaaaaaabna, ghk20naaaaaaaaabnba, ghk20naaaaaaaaabnbb, ghk20naaaaaaaabn, ghk20naaaaaaabn, ghk20naaaaaabn, ghk20naaaaabn, ghk20naaaabn, ghk20naaabn, ghk20naaba, ghk20nabn, ghk20nbna, ghk20nbnba, ghk20nbnbb, hk21, hk22, hk31, ghk33nan, ghk33nbn] at hk34
                              all_goals
                              obtain rfl := so_some h
                              refine ⟨0, fun L hL => ?_⟩
                              simp only [go_sem, ir3, fhk1, hk2, fhk3, fhk4, fhk5, fhk6, fhk7, fhk8, fhk9, fhk10, fhk11, fhk12, fhk13, fhk14, fhk15, fhk16, fhk17, ghk18, hhk18, fhk18, ghk19, hhk19, fhk19, ghk20naaaaaaaaaan, ghk20naaaaaaaaabna, ghk20naaaaaaaaabnba, ghk20naaaaaaaaabnbb, ghk20naaaaaaaabn, ghk20naaaaaaabn, ghk20naaaaaabn, ghk20naaaaabn, ghk20naaaabn, ghk20naaabn, ghk20naaba, ghk20nabn, ghk20nbna, ghk20nbnba, ghk20nbnbb, hk21, hk22, hk31, fhk32, ghk33nan, ghk33nbn, hk34]
                            · try simp only [go_sem, n1, n2, n3, n4, hk2, ghk18, hhk18, ghk19, hhk19, ghk20naaaaaaaaaan, ghk20naaaaaaaaabna, ghk20naaaaaaaaabnba, ghk20naaaaaaaaabnbb, ghk20naaaaaaaabn, ghk20naaaaaaabn, ghk20naaaaaabn, ghk20naaaaabn, ghk20naaaabn, ghk20naaabn, ghk20naaba, ghk20nabn, ghk20nbna, ghk20nbnba, ghk20nbnbb, hk21, hk22, hk31, ghk33nan, ghk33nbn] at hk34
                              all_goals
                              (simp_all)
            · have ghk20naabbn := no_f ghk20naabb
              obtain ⟨ghk20naabbna, ghk20naabbnb⟩ := and_t ghk20naabbn
              obtain ⟨ghk20naabbnba, ghk20naabbnbb⟩ := and_t ghk20naabbnb
              have ghk20nabn := no_f ghk20nab
              have ghk20nbn := no_t ghk20nb
              rcases and_f ghk20nbn with ghk20nbna | ⟨ghk20nbna, ghk20nbnb⟩
              · try simp only [go_sem, n1, n2, n3, n4, hk2, ghk18, hhk18, ghk19, hhk19, ghk20naaaaaaaaaan, ghk20naaaaaaaaabna, ghk20naaaaaaaaabnba, ghk20naaaaaaaaabnbb, ghk20naaaaaaaabn, ghk20naaaaaaabn, ghk20naaaaaabn, ghk20naaaaabn, ghk20naaaabn, ghk20naaabn, ghk20naaba, ghk20naabbna, ghk20naabbnba, ghk20naabbnbb, ghk20nabn] at ghk20nbna
                all_goals
                (simp_all)
              · rcases and_f ghk20nbnb with ghk20nbnba | ⟨ghk20nbnba, ghk20nbnbb⟩
                · try simp only [go_sem, n1, n2, n3, n4, hk2, ghk18, hhk18, ghk19, hhk19, ghk20naaaaaaaaaan, ghk20naaaaaaaaabna, ghk20naaaaaaaaabnba, ghk20naaaaaaaaabnbb, ghk20naaaaaaaabn, ghk20naaaaaaabn, ghk20naaaaaabn, ghk20naaaaabn, ghk20naaaabn, ghk20naaabn, ghk20naaba, ghk20naabbna, ghk20naabbnba, ghk20naabbnbb, ghk20nabn, ghk20nbna] at ghk20nbnba
                  all_goals
                  (simp_all)
                · try simp only [go_sem, n1, n2, n3, n4, hk2, ghk18, hhk18, ghk19, hhk19] at ghk20naaaaaaaaaan
                  all_goals
                  try simp only [go_sem, n1, n2, n3, n4, hk2, ghk18, hhk18, ghk19, hhk19, ghk20naaaaaaaaaan] at ghk20naaaaaaaaabna
                  all_goals
                  try simp only [go_sem, n1, n2, n3, n4, hk2, ghk18, hhk18, ghk19, hhk19, ghk20naaaaaaaaaan, ghk20naaaaaaaaabna] at ghk20naaaaaaaaabnba
                  all_goals
                  try simp only [go_sem, n1, n2, n3, n4, hk2, ghk18, hhk18, ghk19, hhk19, ghk20naaaaaaaaaan, ghk20naaaaaaaaabna, ghk20naaaaaaaaabnba] at ghk20naaaaaaaaabnbb
                  all_goals
                  try simp only [go_sem, n1, n2, n3, n4, hk2, ghk18, hhk18, ghk19, hhk19, ghk20naaaaaaaaaan, ghk20naaaaaaaaabna, ghk20naaaaaaaaabnba, ghk20naaaaaaaaabnbb] at ghk20naaaaaaaabn
                  all_goals
                  try simp only [go_sem, n1, n2, n3, n4, hk2, ghk18, hhk18, ghk19, hhk19, ghk20naaaaaaaaaan, ghk20naaaaaaaaabna, ghk20naaaaaaaaabnba, ghk20naaaaaaaaabnbb, ghk20naaaaaaaabn] at ghk20naaaaaaabn
                  all_goals
                  try simp only [go_sem, n1, n2, n3, n4, hk2, ghk18, hhk18, ghk19, hhk19, ghk20naaaaaaaaaan, ghk20naaaaaaaaabna, ghk20naaaaaaaaabnba, ghk20naaaaaaaaabnbb, ghk20naaaaaaaabn, ghk20naaaaaaabn] at ghk20naaaaaabn
                  all_goals
                  try simp only [go_sem, n1, n2, n3, n4, hk2, ghk18, hhk18, ghk19, hhk19, ghk20naaaaaaaaaan, ghk20naaaaaaaaabna, ghk20naaaaaaaaabnba, ghk20naaaaaaaaabnbb, ghk20naaaaaaaabn, ghk20naaaaaaabn, ghk20naaaaaabn] at ghk20naaaaabn
                  all_goals
                  try simp only [go_sem, n1, n2, n3, n4, hk2, ghk18, hhk18, ghk19, hhk19, ghk20naaaaaaaaaan, ghk20naaaaaaaaabna, ghk20naaaaaaaaabnba, ghk20naaaaaaaaabnbb, ghk20naaaaaaaabn, ghk20naaaaaaabn, ghk20naaaaaabn, ghk20naaaaabn] at ghk20naaaabn
                  all_goals
                  try simp only [go_sem, n1, n2, n3, n4, hk2, ghk18, hhk18, ghk19, hhk19, ghk20naaaaaaaaaan, ghk20naaaaaaaaabna, ghk20naaaaaaaaabnba, ghk20naaaaaaaaabnbb, ghk20naaaaaaaabn, ghk20naaaaaaabn, ghk20naaaaaabn, ghk20naaaaabn, ghk20naaaabn] at ghk20naaabn
                  all_goals
                  try simp only [go_sem, n1, n2, n3, n4, hk2, ghk18, hhk18, ghk19, hhk19, ghk20naaaaaaaaaan, ghk20naaaaaaaaabna, ghk20naaaaaaaaabnba, ghk20naaaaaaaaabnbb, ghk20naaaaaaaabn, ghk20naaaaaaabn, ghk20naaaaaabn, ghk20naaaaabn, ghk20naaaabn, ghk20naaabn] at ghk20naaba
                  all_goals
                  try simp only [go_sem, n1, n2, n3, n4, hk2, ghk18, hhk18, ghk19, hhk19, ghk20naaaaaaaaaan, ghk20naaaaaaaaabna, ghk20naaaaaaaaabnba, ghk20naaaaaaaaabnbb, ghk20naaaaaaaabn, ghk20naaaaaaabn, ghk20naaaaaabn, ghk20naaaaabn, ghk20naaaabn, ghk20naaabn, ghk20naaba] at ghk20naabbna
                  all_goals
                  try simp only [go_sem, n1, n2, n3, n4, hk2, ghk18, hhk18, ghk19, hhk19, ghk20naaaaaaaaaan, ghk20naaaaaaaaabna, ghk20naaaaaaaaabnba, ghk20naaaaaaaaabnbb, ghk20naaaaaaaabn, ghk20naaaaaaabn, ghk20naaaaaabn, ghk20naaaaabn, ghk20naaaabn, ghk20naaabn, ghk20naaba, ghk20naabbna] at ghk20naabbnba
                  all_goals
                  try simp only [go_sem, n1, n2, n3, n4, hk2, ghk18, hhk18, ghk19, hhk19, ghk20naaaaaaaaaan, ghk20naaaaaaaaabna, ghk20naaaaaaaaabnba, ghk20naaaaaaaaabnbb, ghk20naaaaaaaabn, ghk20naaaaaaabn, ghk20naaaaaabn, ghk20naaaaabn, ghk20naaaabn, ghk20naaabn, ghk20naaba, ghk20naabbna, ghk20naabbnba] at ghk20naabbnbb
                  all_goals
                  try simp only [go_sem, n1, n2, n3, n4, hk2, ghk18, hhk18, ghk19, hhk19, ghk20naaaaaaaaaan, ghk20naaaaaaaaabna, ghk20naaaaaaaaabnba, ghk20naaaaaaaaabnbb, ghk20naaaaaaaabn, ghk20naaaaaaabn, ghk20naaaaaabn, ghk20naaaaabn, ghk20naaaabn, ghk20naaabn, ghk20naaba, ghk20naabbna, ghk20naabbnba, ghk20naabbnbb] at ghk20nabn
                  all_goals
                  try simp only [go_sem, n1, n2, n3, n4, hk2, ghk18, hhk18, ghk19, hhk19, ghk20naaaaaaaaaan, ghk20naaaaaaaaabna, ghk20naaaaaaaaabnba, ghk20naaaaaaaaabnbb, ghk20naaaaaaaabn, ghk20naaaaaaabn, ghk20naaaaaabn, ghk20naaaaabn, ghk20naaaabn, ghk20naaabn, ghk20naaba, ghk20naabbna, ghk20naabbnba, ghk20naabbnbb, ghk20nabn] at ghk20nbna
                  all_goals
                  try simp only [go_sem, n1, n2, n3, n4, hk2, ghk18, hhk18, ghk19, hhk19, ghk20naaaaaaaaaan, ghk20naaaaaaaaabna, ghk20naaaaaaaaabnba, ghk20naaaaaaaaabnbb, ghk20naaaaaaaabn, ghk20naaaaaaabn, ghk20naaaaaabn, ghk20naaaaabn, ghk20naaaabn, ghk20naaabn, ghk20naaba, ghk20naabbna, ghk20naabbnba, ghk20naabbnbb, ghk20nabn, ghk20nbna] at ghk20nbnba
                  all_goals
                  try simp only [go_sem, n1, n2, n3, n4, hk2, ghk18, hhk18, ghk19, hhk19, ghk20naaaaaaaaaan, ghk20naaaaaaaaabna, ghk20naaaaaaaaabnba, ghk20naaaaaaaaabnbb, ghk20naaaaaaaabn, ghk20naaaaaaabn, ghk20naaaaaabn, ghk20naaaaabn, ghk20naaaabn, ghk20naaabn, ghk20naaba, ghk20naabbna, ghk20naabbnba, ghk20naabbnbb, ghk20nabn, ghk20nbna, ghk20nbnba] at ghk20nbnbb
                  all_goals
                  rcases it_some h with ⟨hk21, h⟩ | ⟨hk21, h⟩
                  · try simp only [go_sem, n1, n2, n3, n4, hk2, ghk18, hhk18, ghk19, hhk19, ghk20naaaaaaaaaan, ghk20naaaaaaaaabna, ghk20naaaaaaaaabnba, ghk20naaaaaaaaabnbb, ghk20naaaaaaaabn, ghk20naaaaaaabn, ghk20naaaaaabn, ghk20naaaaabn, ghk20naaaabn, ghk20naaabn, ghk20naaba, ghk20naabbna, ghk20naabbnba, ghk20naabbnbb, ghk20nabn, ghk20nbna, ghk20nbnba, ghk20nbnbb] at hk21
                    all_goals
                    obtain rfl := so_some h
                    refine ⟨0, fun L hL => ?_⟩
                    simp only [go_sem, ir3, fhk1, hk2, fhk3, fhk4, fhk5, fhk6, fhk7, fhk8, fhk9, fhk10, fhk11, fhk12, fhk13, fhk14, fhk15, fhk16, fhk17, ghk18, hhk18, fhk18, ghk19, hhk19, fhk19, ghk20naaaaaaaaaan, ghk20naaaaaaaaabna, ghk20naaaaaaaaabnba, ghk20naaaaaaaaabnbb, ghk20naaaaaaaabn, ghk20naaaaaaabn, ghk20naaaaaabn, ghk20naaaaabn, ghk20naaaabn, ghk20naaabn, ghk20naaba, ghk20naabbna, ghk20naabbnba, ghk20naabbnbb, ghk20nabn, ghk20nbna, ghk20nbnba, ghk20nbnbb, hk21]
                  · try simp only [go_sem, n1, n2, n3, n4, hk2, ghk18, hhk18, ghk19, hhk19, ghk20naaaaaaaaaan, ghk20naaaaaaaaabna, ghk20naaaaaaaaabnba, ghk20naaaaaaaaabnbb, ghk20naaaaaaaabn, ghk20naaaaaaabn, ghk20naaaaaabn, ghk20naaaaabn, ghk20naaaabn, ghk20naaabn, ghk20naaba, ghk20naabbna, ghk20naabbnba, ghk20naabbnbb, ghk20nabn, ghk20nbna, ghk20nbnba, ghk20nbnbb] at hk21
                    all_goals
                    rcases it_some h with ⟨hk22, h⟩ | ⟨hk22, h⟩
                    · try simp only [go_sem, n1, n2, n3, n4, hk2, ghk18, hhk18, ghk19, hhk19, ghk20naaaaaaaaaan, ghk20naaaaaaaaabna, ghk20naaaaaaaaabnba, ghk20naaaaaaaaabnbb, ghk20naaaaaaaabn, ghk20naaaaaaabn, ghk20naaaaaabn, ghk20naaaaabn, ghk20naaaabn, ghk20naaabn, ghk20naaba, ghk20naabbna, ghk20naabbnba, ghk20naabbnbb, ghk20nabn, ghk20nbna, ghk20nbnba, ghk20nbnbb, hk21] at hk22
                      all_goals
                      obtain ⟨y_23, hk23, h⟩ := bd_some h
                      have fhk23 := Fs_impl_DateOf hk23
                      try simp only [go_sem, hk2, ghk18, hhk18, ghk19, hhk19, ghk20naaaaaaaaaan, ghk20naaaaaaaaabna, ghk20naaaaaaaaabnba, ghk20naaaaaaaaabnbb, ghk20naaaaaaaabn, ghk20naaaaaaabn, ghk20naaaaaabn, ghk20naaaaabn, ghk20naaaabn, ghk20naaabn, ghk20naaba, ghk20naabbna, ghk20naabbnba, ghk20naabbnbb, ghk20nabn, ghk20nbna, ghk20nbnba, ghk20nbnbb, hk21, hk22] at fhk23
                      rcases it_some h with ⟨hk24, h⟩ | ⟨hk24, h⟩
                      · try simp only [go_sem, n1, n2, n3, n4, hk2, ghk18, hhk18, ghk19, hhk19, ghk20naaaaaaaaaan, ghk20naaaaaaaaabna, ghk20naaaaaaaaabnba, ghk20naaaaaaaaabnbb, ghk20naaaaaaaabn, ghk20naaaaaaabn, ghk20naaaaaabn, ghk20naaaaabn, ghk20naaaabn, ghk20naaabn, ghk20naaba, ghk20naabbna, ghk20naabbnba, ghk20naabbnbb, ghk20nabn, ghk20nbna, ghk20nbnba, ghk20nbnbb, hk21, hk22] at hk24
                        all_goals
                        obtain rfl := so_some h
                        refine ⟨0, fun L hL => ?_⟩
                        simp only [go_sem, ir3, fhk1, hk2, fhk3, fhk4, fhk5, fhk6, fhk7, fhk8, fhk9, fhk10, fhk11, fhk12, fhk13, fhk14, fhk15, fhk16, fhk17, ghk18, hhk18, fhk18, ghk19, hhk19, fhk19, ghk20naaaaaaaaaan, ghk20naaaaaaaaabna, ghk20naaaaaaaaabnba, ghk20naaaaaaaaabnbb, ghk20naaaaaaaabn, ghk20naaaaaaabn, ghk20naaaaaabn, ghk20naaaaabn, ghk20naaaabn, ghk20naaabn, ghk20naaba, ghk20naabbna, ghk20naabbnba, ghk20naabbnbb, ghk20nabn, ghk20nbna, ghk20nbnba, ghk20nbnbb, hk21, hk22, fhk23, hk24]
                      · try simp only [go_sem, n1, n2, n3, n4, hk2, ghk18, hhk18, ghk19, hhk19, ghk20naaaaaaaaaan, ghk20naaaaaaaaabna, ghk20naaaaaaaaabnba, ghk20naaaaaaaaabnbb, ghk20naaaaaaaabn, ghk20naaaaaaabn, ghk20naaaaaabn, ghk20naaaaabn, ghk20naaaabn, ghk20naaabn, ghk20naaba, ghk20naabbna, ghk20naabbnba, ghk20naabbnbb, ghk20nabn, ghk20nbna, ghk20nbnba, ghk20nbnbb, hk21, hk22] at hk24
                        all_goals
                        rcases it_some h with ⟨hk25, h⟩ | ⟨hk25, h⟩
                        · try simp only [go_sem, n1, n2, n3, n4, hk2, ghk18, hhk18, ghk19, hhk19, ghk20naaaaaaaaaan, ghk20naaaaaaaaabna, ghk20naaaaaaaaabnba, ghk20naaaaaaaaabnbb, ghk20naaaaaaaabn, ghk20naaaaaaabn, ghk20naaaaaabn, ghk20naaaaabn, ghk20naaaabn, ghk20naaabn, ghk20naaba, ghk20naabbna, ghk20naabbnba, ghk20naabbnbb, ghk20nabn, ghk20nbna, ghk20nbnba, ghk20nbnbb, hk21, hk22, hk24] at hk25
                          all_goals
                          obtain rfl := so_some h
                          refine ⟨0, fun L hL => ?_⟩
                          simp only [go_sem, ir3, fhk1, hk2, fhk3, fhk4, fhk5, fhk6, fhk7, fhk8, fhk9, fhk10, fhk11, fhk12, fhk13, fhk14, fhk15, fhk16, fhk17, ghk18, hhk18, fhk18, ghk19, hhk19, fhk19, ghk20naaaaaaaaaan, ghk20naaaaaaaaabna, ghk20naaaaaaaaabnba, ghk20naaaaaaaaabnbb, ghk20naaaaaaaabn, ghk20naaaaaaabn, ghk20naaaaaabn, ghk20naaaaabn, ghk20naaaabn, ghk20naaabn, ghk20naaba, ghk20naabbna, ghk20naabbnba, ghk20naabbnbb, ghk20nabn, ghk20nbna, ghk20nbnba, ghk20nbnbb, hk21, hk22, fhk23, hk24, hk25]
                        · try simp only [go_sem, n1, n2, n3, n4, hk2, ghk18, hhk18, ghk19, hhk19, ghk20naaaaaaaaaan, ghk20naaaaaaaaabna, ghk20naaaaaaaaabnba, ghk20naaaaaaaaabnbb, ghk20naaaaaaaabn, ghk20naaaaaaabn, ghk20naaaaaabn, ghk20naaaaabn, ghk20naaaabn, ghk20naaabn, ghk20naaba, ghk20naabbna, ghk20naabbnba, ghk20naabbnbb, ghk20nabn, ghk20nbna, ghk20nbnba, ghk20nbnbb, hk21, hk22, hk24] at hk25
                          all_goals
                          obtain ⟨y_26, hk26, h⟩ := bd_some h
                          have fhk26 := Fs_impl_DayNumber hk26
                          try simp only [go_sem, hk2, ghk18, hhk18, ghk19, hhk19, ghk20naaaaaaaaaan, ghk20naaaaaaaaabna, ghk20naaaaaaaaabnba, ghk20naaaaaaaaabnbb, ghk20naaaaaaaabn, ghk20naaaaaaabn, ghk20naaaaaabn, ghk20naaaaabn, ghk20naaaabn, ghk20naaabn, ghk20naaba, ghk20naabbna, ghk20naabbnba, ghk20naabbnbb, ghk20nabn, ghk20nbna, ghk20nbnba, ghk20nbnbb, hk21, hk22, hk24, hk25] at fhk26
                          obtain ⟨hk27, h⟩ := ck_some h
                          rcases or_split hk27 with ⟨ghk27, hk27⟩ | ghk27
                          · try simp only [go_sem, n1, n2, n3, n4, hk2, ghk18, hhk18, ghk19, hhk19, ghk20naaaaaaaaaan, ghk20naaaaaaaaabna, ghk20naaaaaaaaabnba, ghk20naaaaaaaaabnbb, ghk20naaaaaaaabn, ghk20naaaaaaabn, ghk20naaaaaabn, ghk20naaaaabn, ghk20naaaabn, ghk20naaabn, ghk20naaba, ghk20naabbna, ghk20naabbnba, ghk20naabbnbb, ghk20nabn, ghk20nbna, ghk20nbnba, ghk20nbnbb, hk21, hk22, hk24, hk25] at ghk27
                            all_goals
                            obtain ⟨y_27, hhk27⟩ := Option.isSome_iff_exists.1 hk27
                            have fhk27 := Fs_impl_ValidDate hhk27
                            try simp only [go_sem, n1, n2, n3, n4, hk2, ghk18, hhk18, ghk19, hhk19, ghk20naaaaaaaaaan, ghk20naaaaaaaaabna, ghk20naaaaaaaaabnba, ghk20naaaaaaaaabnbb, ghk20naaaaaaaabn, ghk20naaaaaaabn, ghk20naaaaaabn, ghk20naaaaabn, ghk20naaaabn, ghk20naaabn, ghk20naaba, ghk20naabbna, ghk20naabbnba, ghk20naabbnbb, ghk20nabn, ghk20nbna, ghk20nbnba, ghk20nbnbb, hk21, hk22, hk24, hk25, ghk27] at hhk27
                            all_goals
                            try simp only [go_sem, hk2, ghk18, hhk18, ghk19, hhk19, ghk20naaaaaaaaaan, ghk20naaaaaaaaabna, ghk20naaaaaaaaabnba, ghk20naaaaaaaaabnbb, ghk20naaaaaaaabn, ghk20naaaaaaabn, ghk20naaaaaabn, ghk20naaaaabn, ghk20naaaabn, ghk20naaabn, ghk20naaba, ghk20naabbna, ghk20naabbnba, ghk20naabbnbb, ghk20nabn, ghk20nbna, ghk20nbnba, ghk20nbnbb, hk21, hk22, hk24, hk25, ghk27] at fhk27
                            rcases it_some h with ⟨hk28, h⟩ | ⟨hk28, h⟩
                            · try simp only [go_sem, n1, n2, n3, n4, hk2, ghk18, hhk18, ghk19, hhk19, ghk20naaaaaaaaaan, ghk20naaaaaaaaabna, ghk20naaaaaaaaabnba, ghk20naaaaaaaaabnbb, ghk20naaaaaaaabn, ghk20naaaaaaabn, ghk20naaaaaabn, ghk20naaaaabn, ghk20naaaabn, ghk20naaabn, ghk20naaba, ghk20naabbna, ghk20naabbnba, ghk20naabbnbb, ghk20nabn, ghk20nbna, ghk20nbnba, ghk20nbnbb, hk21, hk22, hk24, hk25, ghk27, hhk27] at hk28
                              all_goals
                              obtain rfl := so_some h
                              refine ⟨0, fun L hL => ?_⟩
                              simp only [go_sem, ir3, fhk1, hk2, fhk3, fhk4, fhk5, fhk6, fhk7, fhk8, fhk9, fhk10, fhk11, fhk12, fhk13, fhk14, fhk15, fhk16, fhk17, ghk18, hhk18, fhk18, ghk19, hhk19, fhk19, ghk20naaaaaaaaaan, ghk20naaaaaaaaabna, ghk20naaaaaaaaabnba, ghk20naaaaaaaaabnbb, ghk20naaaaaaaabn, ghk20naaaaaaabn, ghk20naaaaaabn, ghk20naaaaabn, ghk20naaaabn, ghk20naaabn, ghk20naaba, ghk20naabbna, ghk20naabbnba, ghk20naabbnbb, ghk20nabn, ghk20nbna, ghk20nbnba, ghk20nbnbb, hk21, hk22, fhk23, hk24, hk25, fhk26, ghk27, hhk27, fhk27, hk28]
                            · try simp only [go_sem, n1, n2, n3, n4, hk2, ghk18, hhk18, ghk19, hhk19, ghk20naaaaaaaaaan, ghk20naaaaaaaaabna, ghk20naaaaaaaaabnba, ghk20naaaaaaaaabnbb, ghk20naaaaaaaabn, ghk20naaaaaaabn, ghk20naaaaaabn, ghk20naaaaabn, ghk20naaaabn, ghk20naaabn, ghk20naaba, ghk20naabbna, ghk20naabbnba, ghk20naabbnbb, ghk20nabn, ghk20nbna, ghk20nbnba, ghk20nbnbb, hk21, hk22, hk24, hk25, ghk27, hhk27] at hk28
                              all_goals
                              rcases it_some h with ⟨hk29, h⟩ | ⟨hk29, h⟩
                              · try simp only [go_sem, n1, n2, n3, n4, hk2, ghk18, hhk18, ghk19, hhk19, ghk20naaaaaaaaaan, ghk20naaaaaaaaabna, ghk20naaaaaaaaabnba, ghk20naaaaaaaaabnbb, ghk20naaaaaaaabn, ghk20naaaaaaabn, ghk20naaaaaabn, ghk20naaaaabn, ghk20naaaabn, ghk20naaabn, ghk20naaba, ghk20naabbna, ghk20naabbnba, ghk20naabbnbb, ghk20nabn, ghk20nbna, ghk20nbnba, ghk20nbnbb, hk21, hk22, hk24, hk25, ghk27, hhk27, hk28] at hk29
                                all_goals
                                obtain rfl := so_some h
                                refine ⟨0, fun L hL => ?_⟩
                                simp only [go_sem, ir3, fhk1, hk2, fhk3, fhk4, fhk5, fhk6, fhk7, fhk8, fhk9, fhk10, fhk11, fhk12, fhk13, fhk14, fhk15, fhk16, fhk17, ghk18, hhk18, fhk18, ghk19, hhk19, fhk19, ghk20naaaaaaaaaan, ghk20naaaaaaaaabna, ghk20naaaaaaaaabnba, ghk20naaaaaaaaabnbb, ghk20naaaaaaaabn, ghk20naaaaaaabn, ghk20naaaaaabn, ghk20naaaaabn, ghk20naaaabn, ghk20naaabn, ghk20naaba, ghk20naabbna, ghk20naabbnba, ghk20naabbnbb, ghk20nabn, ghk20nbna, ghk20nbnba, ghk20nbnbb, hk21, hk22, fhk23, hk24, hk25, fhk26, ghk27, hhk27, fhk27, hk28, hk29]
                              · try simp only [go_sem, n1, n2, n3, n4, hk2, ghk18, hhk18, ghk19, hhk19, ghk20naaaaaaaaaan, ghk20naaaaaaaaabna, ghk20naaaaaaaaabnba, ghk20naaaaaaaaabnbb, ghk20naaaaaaaabn, ghk20naaaaaaabn, ghk20naaaaaabn, ghk20naaaaabn, ghk20naaaabn, ghk20naaabn, ghk20naaba, ghk20naabbna, ghk20naabbnba, ghk20naabbnbb, ghk20nabn, ghk20nbna, ghk20nbnba, ghk20nbnbb, hk21, hk22, hk24, hk25, ghk27, hhk27, hk28] at hk29
                                all_goals
                                obtain ⟨y_30, hk30, h⟩ := bd_some h
                                have fhk30 := Fs_impl_DateOf hk30
                                try simp only [go_sem, hk2, ghk18, hhk18, ghk19, hhk19, ghk20naaaaaaaaaan, ghk20naaaaaaaaabna, ghk20naaaaaaaaabnba, ghk20naaaaaaaaabnbb, ghk20naaaaaaaabn, ghk20naaaaaaabn, ghk20naaaaaabn, ghk20naaaaabn, ghk20naaaabn, ghk20naaabn, ghk20naaba, ghk20naabbna, ghk20naabbnba, ghk20naabbnbb, ghk20nabn, ghk20nbna, ghk20nbnba, ghk20nbnbb, hk21, hk22, hk24, hk25, ghk27, hhk27, hk28, hk29] at fhk30
                                obtain rfl := so_some h
                                refine ⟨0, fun L hL => ?_⟩
                                simp only [go_sem, ir3, fhk1, hk2, fhk3, fhk4, fhk5, fhk6, fhk7, fhk8, fhk9, fhk10, fhk11, fhk12, fhk13, fhk14, fhk15, fhk16, fhk17, ghk18, hhk18, fhk18, ghk19, hhk19, fhk19, ghk20naaaaaaaaaan, ghk20naaaaaaaaabna, ghk20naaaaaaaaabnba, ghk20naaaaaaaaabnbb, ghk20naaaaaaaabn, ghk20naaaaaaabn, ghk20naaaaaabn, ghk20naaaaabn, ghk20naaaabn, ghk20naaabn, ghk20naaba, ghk20naabbna, ghk20naabbnba, ghk20naabbnbb, ghk20nabn, ghk20nbna, ghk20nbnba, ghk20nbnbb, hk21, hk22, fhk23, hk24, hk25, fhk26, ghk27, hhk27, fhk27, hk28, hk29, fhk30]
                          · have ghk27n := no_f ghk27
                            rcases or_t ghk27n with ghk27na | ⟨ghk27na, ghk27nb⟩
                            · have ghk27nan := no_t ghk27na
                              try simp only [go_sem, n1, n2, n3, n4, hk2, ghk18, hhk18, ghk19, hhk19, ghk20naaaaaaaaaan, ghk20naaaaaaaaabna, ghk20naaaaaaaaabnba, ghk20naaaaaaaaabnbb, ghk20naaaaaaaabn, ghk20naaaaaaabn, ghk20naaaaaabn, ghk20naaaaabn, ghk20naaaabn, ghk20naaabn, ghk20naaba, ghk20naabbna, ghk20naabbnba, ghk20naabbnbb, ghk20nabn, ghk20nbna, ghk20nbnba, ghk20nbnbb, hk21, hk22, hk24, hk25] at ghk27nan
                              all_goals
                              rcases it_some h with ⟨hk28, h⟩ | ⟨hk28, h⟩
                              · try simp only [go_sem, n1, n2, n3, n4, hk2, ghk18, hhk18, ghk19, hhk19, ghk20naaaaaaaaaan, ghk20naaaaaaaaabna, ghk20naaaaaaaaabnba, ghk20naaaaaaaaabnbb, ghk20naaaaaaaabn, ghk20naaaaaaabn, ghk20naaaaaabn, ghk20naaaaabn, ghk20naaaabn, ghk20naaabn, ghk20naaba, ghk20naabbna, ghk20naabbnba, ghk20naabbnbb, ghk20nabn, ghk20nbna, ghk20nbnba, ghk20nbnbb, hk21, hk22, hk24, hk25, ghk27nan] at hk28
                                all_goals
                                obtain rfl := so_some h
                                refine ⟨0, fun L hL => ?_⟩
                                simp only [go_sem, ir3, fhk1, hk2, fhk3, fhk4, fhk5, fhk6, fhk7, fhk8, fhk9, fhk10, fhk11, fhk12, fhk13, fhk14, fhk15, fhk16, fhk17, ghk18, hhk18, fhk18, ghk19, hhk19, fhk19, ghk20naaaaaaaaaan, ghk20naaaaaaaaabna, ghk20naaaaaaaaabnba, ghk20naaaaaaaaabnbb, ghk20naaaaaaaabn, ghk20naaaaaaabn, ghk20naaaaaabn, ghk20naaaaabn, ghk20naaaabn, ghk20naaabn, ghk20naaba, ghk20naabbna, ghk20naabbnba, ghk20naabbnbb, ghk20nabn, ghk20nbna, ghk20nbnba, ghk20nbnbb, hk21, hk22, fhk23, hk24, hk25, fhk26, ghk27nan, hk28]
                              · try simp only [go_sem, n1, n2, n3, n4, hk2, ghk18, hhk18, ghk19, hhk19, ghk20naaaaaaaaaan, ghk20naaaaaaaaabna, ghk20naaaaaaaaabnba, ghk20naaaaaaaaabnbb, ghk20naaaaaaaabn, ghk20naaaaaaabn, ghk20naaaaaabn, ghk20naaaaabn, ghk20naaaabn, ghk20naaabn, ghk20naaba, ghk20naabbna, ghk20naabbnba, ghk20naabbnbb, ghk20nabn, ghk20nbna, ghk20nbnba, ghk20nbnbb, hk21, hk22, hk24, hk25, ghk27nan] at hk28
                                all_goals
                                (simp_all)
                            · have ghk27nan := no_f ghk27na
                              have ghk27nbn := no_t ghk27nb
                              try simp only [go_sem, n1, n2, n3, n4, hk2, ghk18, hhk18, ghk19, hhk19, ghk20naaaaaaaaaan, ghk20naaaaaaaaabna, ghk20naaaaaaaaabnba, ghk20naaaaaaaaabnbb, ghk20naaaaaaaabn, ghk20naaaaaaabn, ghk20naaaaaabn, ghk20naaaaabn, ghk20naaaabn, ghk20naaabn, ghk20naaba, ghk20naabbna, ghk20naabbnba, ghk20naabbnbb, ghk20nabn, ghk20nbna, ghk20nbnba, ghk20nbnbb, hk21, hk22, hk24, hk25] at ghk27nan
                              all_goals
                              try simp only [go_sem, n1, n2, n3, n4, hk2, ghk18, hhk18, ghk19, hhk19, ghk20naaaaaaaaaan, ghk20naaaaaaaaabna, ghk20naaaaaaaaabnba, ghk20naaaaaaaaabnbb, ghk20naaaaaaaabn, ghk20naaaaaaabn, ghk20naaaaaabn, ghk20naaaaabn, ghk20naaaabn, ghk20naaabn, ghk20naaba, ghk20naabbna, ghk20naabbnba, ghk20naabbnbb, ghk20nabn, ghk20nbna, ghk20nbnba, ghk20nbnbb, hk21, hk22, hk24, hk25, ghk27nan] at ghk27nbn
                              all_goals
                              rcases it_some h with ⟨hk28, h⟩ | ⟨hk28, h⟩
                              · try simp only [go_sem, n1, n2, n3, n4, hk2, ghk18, hhk18, ghk19, hhk19, ghk20naaaaaaaaaan, ghk20naaaaaaaaabna, ghk20naaaaaaaaabnba, ghk20naaaaaaaaabnbb, ghk20naaaaaaaabn, ghk20naaaaaaabn, ghk20naaaaaabn, ghk20naaaaabn, ghk20naaaabn, ghk20naaabn, ghk20naaba, ghk20naabbna, ghk20naabbnba, ghk20naabbnbb, ghk20nabn, ghk20nbna, ghk20nbnba, ghk20nbnbb, hk21, hk22, hk24, hk25, ghk27nan, ghk27nbn] at hk28
                                all_goals
                                obtain rfl := so_some h
                                refine ⟨0, fun L hL => ?_⟩
                                simp only [go_sem, ir3, fhk1, hk2, fhk3, fhk4, fhk5, fhk6, fhk7, fhk8, fhk9, fhk10, fhk11, fhk12, fhk13, fhk14, fhk15, fhk16, fhk17, ghk18, hhk18, fhk18, ghk19, hhk19, fhk19, ghk20naaaaaaaaaan, ghk20naaaaaaaaabna, ghk20naaaaaaaaabnba, ghk20naaaaaaaaabnbb, ghk20naaaaaaaabn, ghk20naaaaaaabn, ghk20naaaaaabn, ghk20naaaaabn, ghk20naaaabn, ghk20naaabn, ghk20naaba, ghk20naabbna, ghk20naabbnba, ghk20naabbnbb, ghk20nabn, ghk20nbna, ghk20nbnba, ghk20nbnbb, hk21, hk22, fhk23, hk24, hk25, fhk26, ghk27nan, ghk27nbn, hk28]
                              · try simp only [go_sem, n1, n2, n3, n4, hk2, ghk18, hhk18, ghk19, hhk19, ghk20naaaaaaaaaan, ghk20naaaaaaaaabna, ghk20naaaaaaaaabnba, ghk20naaaaaaaaabnbb, ghk20naaaaaaaabn, ghk20naaaaaaabn, ghk20naaaaaabn, ghk20naaaaabn, ghk20naaaabn, ghk20naaabn, ghk20naaba, ghk20naabbna, ghk20naabbnba, ghk20naabbnbb, ghk20nabn, ghk20nbna, ghk20nbnba, ghk20nbnbb, hk21, hk22, hk24, hk25, ghk27nan, ghk27nbn] at hk28
                                all_goals
                                (simp_all)
                    · try simp only [go_sem, n1, n2, n3, n4, hk2, ghk18, hhk18, ghk19, hhk19, ghk20naaaaaaaaaan, ghk20naaaaaaaaabna, ghk20naaaaaaaaabnba, ghk20naaaaaaaaabnbb, ghk20naaaaaaaabn, ghk20naaaaaaabn, ghk20naaaaaabn, ghk20naaaaabn, ghk20naaaabn, ghk20naaabn, ghk20naaba, ghk20naabbna, ghk20naabbnba, ghk20naabbnbb, ghk20nabn, ghk20nbna, ghk20nbnba, ghk20nbnbb, hk21] at hk22
                      all_goals
                      rcases it_some h with ⟨hk31, h⟩ | ⟨hk31, h⟩
                      · try simp only [go_sem, n1, n2, n3, n4, hk2, ghk18, hhk18, ghk19, hhk19, ghk20naaaaaaaaaan, ghk20naaaaaaaaabna, ghk20naaaaaaaaabnba, ghk20naaaaaaaaabnbb, ghk20naaaaaaaabn, ghk20naaaaaaabn, ghk20naaaaaabn, ghk20naaaaabn, ghk20naaaabn, ghk20naaabn, ghk20naaba, ghk20naabbna, ghk20naabbnba, ghk20naabbnbb, ghk20nabn, ghk20nbna, ghk20nbnba, ghk20nbnbb, hk21, hk22] at hk31
                        all_goals
                        obtain rfl := so_some h
                        refine ⟨0, fun L hL => ?_⟩
                        simp only [go_sem, ir3, fhk1, hk2, fhk3, fhk4, fhk5, fhk6, fhk7, fhk8, fhk9, fhk10, fhk11, fhk12, fhk13, fhk14, fhk15, fhk16, fhk17, ghk18, hhk18, fhk18, ghk19, hhk19, fhk19, ghk20naaaaaaaaaan, ghk20naaaaaaaaabna, ghk20naaaaaaaaabnba, ghk20naaaaaaaaabnbb, ghk20naaaaaaaabn, ghk20naaaaaaabn, ghk20naaaaaabn, ghk20naaaaabn, ghk20naaaabn, ghk20naaabn, ghk20naaba, ghk20naabbna, ghk20naabbnba, ghk20naabbnbb, ghk20nabn, ghk20nbna, ghk20nbnba, ghk20nbnbb, hk21, hk22, hk31]
                      · try simp only [go_sem, n1, n2, n3, n4, hk2, ghk18, hhk18, ghk19, hhk19, ghk20naaaaaaaaaan, ghk20naaaaaaaaabna, ghk20naaaaaaaaabnba, ghk20naaaaaaaaabnbb, ghk20naaaaaaaabn, ghk20naaaaaaabn, ghk20naaaaaabn, ghk20naaaaabn, ghk20naaaabn, ghk20naaabn, ghk20naaba, ghk20naabbna, ghk20naabbnba, ghk20naabbnbb, ghk20nabn, ghk20nbna, ghk20nbnba, ghk20nbnbb, hk21, hk22] at hk31
                        all_goals
                        obtain ⟨y_32, hk32, h⟩ := bd_some h
                        have fhk32 := Fs_impl_DayNumber hk32
                        try simp only [go_sem, hk2, ghk18, hhk18, ghk19, hhk19, ghk20naaaaaaaaaan, ghk20naaaaaaaaabna, ghk20naaaaaaaaabnba, ghk20naaaaaaaaabnbb, ghk20naaaaaaaabn, ghk20naaaaaaabn, ghk20naaaaaabn, ghk20naaaaabn, ghk20naaaabn, ghk20naaabn, ghk20naaba, ghk20naabbna, ghk20naabbnba, ghk20naabbnbb, ghk20nabn, ghk20nbna, ghk20nbnba, ghk20nbnbb, hk21, hk22, hk31] at fhk32
                        obtain ⟨hk33, h⟩ := ck_some h
                        rcases or_split hk33 with ⟨ghk33, hk33⟩ | ghk33
                        · try simp only [go_sem, n1, n2, n3, n4, hk2, ghk18, hhk18, ghk19, hhk19, ghk20naaaaaaaaaan, ghk20naaaaaaaaabna, ghk20naaaaaaaaabnba, ghk20naaaaaaaaabnbb, ghk20naaaaaaaabn, ghk20naaaaaaabn, ghk20naaaaaabn, ghk20naaaaabn, ghk20naaaabn, ghk20naaabn, ghk20naaba, ghk20naabbna, ghk20naabbnba, ghk20naabbnbb, ghk20nabn, ghk20nbna, ghk20nbnba, ghk20nbnbb, hk21, hk22, hk31] at ghk33
                          all_goals
                          obtain ⟨y_33, hhk33⟩ := Option.isSome_iff_exists.1 hk33
                          have fhk33 := Fs_impl_ValidDate hhk33
                          try simp only [go_sem, n1, n2, n3, n4, hk2, ghk18, hhk18, ghk19, hhk19, ghk20naaaaaaaaaan, ghk20naaaaaaaaabna, ghk20naaaaaaaaabnba, ghk20naaaaaaaaabnbb, ghk20naaaaaaaabn, ghk20naaaaaaabn, ghk20naaaaaabn, ghk20naaaaabn, ghk20naaaabn, ghk20naaabn, ghk20naaba, ghk20naabbna, ghk20naabbnba, ghk20naabbnbb, ghk20nabn, ghk20nbna, ghk20nbnba, ghk20nbnbb, hk21, hk22, hk31, ghk33] at hhk33
                          all_goals
                          try simp only [go_sem, hk2, ghk18, hhk18, ghk19, hhk19, ghk20naaaaaaaaaan, ghk20naaaaaaaaabna, ghk20naaaaaaaaabnba, ghk20naaaaaaaaabnbb, ghk20naaaaaaaabn, ghk20naaaaaaabn, ghk20naaaaaabn, ghk20naaaaabn, ghk20naaaabn, ghk20naaabn, ghk20naaba, ghk20naabbna, ghk20naabbnba, ghk20naabbnbb, ghk20nabn, ghk20nbna, ghk20nbnba, ghk20nbnbb, hk21, hk22, hk31, ghk33] at fhk33
                          rcases it_some h with ⟨hk34, h⟩ | ⟨hk34, h⟩
                          · try simp only [go_sem, n1, n2, n3, n4, hk2, ghk18, hhk18, ghk19, hhk19, ghk20naaaaaaaaaan, ghk20naaaaaaaaabna, ghk20naaaaaaaaabnba, ghk20naaaaaaaaabnbb, ghk20naaaaaaaabn, ghk20naaaaaaabn, ghk20naaaaaabn, ghk20naaaaabn, ghk20naaaabn, ghk20naaabn, ghk20naaba, ghk20naabbna, ghk20naabbnba, ghk20naabbnbb, ghk20nabn, ghk20nbna, ghk20nbnba, ghk20nbnbb, hk21, hk22, hk31, ghk33, hhk33] at hk34
                            all_goals
                            obtain rfl := so_some h
                            refine ⟨0, fun L hL => ?_⟩
                            simp only [go_sem, ir3, fhk1, hk2, fhk3, fhk4, fhk5, fhk6, fhk7, fhk8, fhk9, fhk10, fhk11, fhk12, fhk13, fhk14, fhk15, fhk16, fhk17, ghk18, hhk18, fhk18, ghk19, hhk19, fhk19, ghk20naaaaaaaaaan, ghk20naaaaaaaaabna, ghk20naaaaaaaaabnba, ghk20naaaaaaaaabnbb, ghk20naaaaaaaabn, ghk20naaaaaaabn, ghk20naaaaaabn, ghk20naaaaabn, ghk20naaaabn, ghk20naaabn, ghk20naaba, ghk20naabbna, ghk20naabbnba, ghk20naabbnbb, ghk20nabn, ghk20nbna, ghk20nbnba, ghk20nbnbb, hk21, hk22, hk31, fhk32, ghk33, hhk33, fhk33, hk34]
                          · try simp only [go_sem, n1, n2, n3, n4, hk2, ghk18, hhk18, ghk19, hhk19, ghk20naaaaaaaaaan, ghk20naaaaaaaaabna, ghk20naaaaaaaaabnba, ghk20naaaaaaaaabnbb, ghk20naaaaaaaabn, ghk20naaaaaaabn, ghk20naaaaaabn, ghk20naaaaabn, ghk20naaaabn, ghk20naaabn, ghk20naaba, ghk20naabbna, ghk20naabbnba, ghk20naabbnbb, ghk20nabn, ghk20nbna, ghk20nbnba, ghk20nbnbb, hk21, hk22, hk31, ghk33, hhk33] at hk34
                            all_goals
                            rcases it_some h with ⟨hk35, h⟩ | ⟨hk35, h⟩
                            · try simp only [go_sem, n1, n2, n3, n4, hk2, ghk18, hhk18, ghk19, hhk19, ghk20naaaaaaaaaan, ghk20naaaaaaaaabna, ghk20naaaaaaaaabnba, ghk20naaaaaaaaabnbb, ghk20naaaaaaaabn, ghk20naaaaaaabn, ghk20naaaaaabn, ghk20naaaaabn, ghk20naaaabn, ghk20naaabn, ghk20naaba, ghk20naabbna, ghk20naabbnba, ghk20naabbnbb, ghk20nabn, ghk20nbna, ghk20nbnba, ghk20nbnbb, hk21, hk22, hk31, ghk33, hhk33, hk34] at hk35
                              all_goals
                              obtain rfl := so_some h
                              refine ⟨0, fun L hL => ?_⟩
                              simp only [go_sem, ir3, fhk1, hk2, fhk3, fhk4, fhk5, fhk6, fhk7, fhk8, fhk9, fhk10, fhk11, fhk12, fhk13, fhk14, fhk15, fhk16, fhk17, ghk18, hhk18, fhk18, ghk19, hhk19, fhk19, ghk20naaaaaaaaaan, ghk20naaaaaaaaabna, ghk20naaaaaaaaabnba, ghk20naaaaaaaaabnbb, ghk20naaaaaaaabn, ghk20naaaaaaabn, ghk20naaaaaabn, ghk20naaaaabn, ghk20naaaabn, ghk20naaabn, ghk20naaba, ghk20naabbna, ghk20naabbnba, ghk20naabbnbb, ghk20nabn, ghk20nbna, ghk20nbnba, ghk20nbnbb, hk21, hk22, hk31, fhk32, ghk33, hhk33, fhk33, hk34, hk35]
                            · try simp only [go_sem, n1, n2, n3, n4, hk2, ghk18, hhk18, ghk19, hhk19, ghk20naaaaaaaaaan, ghk20naaaaaaaaabna, ghk20naaaaaaaaabnba, ghk20naaaaaaaaabnbb, ghk20naaaaaaaabn, ghk20naaaaaaabn, ghk20naaaaaabn, ghk20naaaaabn, ghk20naaaabn, ghk20naaabn, ghk20naaba, ghk20naabbna, ghk20naabbnba, ghk20naabbnbb, ghk20nabn, ghk20nbna, ghk20nbnba, ghk20nbnbb, hk21, hk22, hk31, ghk33, hhk33, hk34] at hk35
                              all_goals
                              obtain ⟨y_36, hk36, h⟩ := bd_some h
                              have fhk36 := Fs_impl_DateOf hk36
                              try simp only [go_sem, hk2, ghk18, hhk18, ghk19, hhk19, ghk20naaaaaaaaaan, ghk20naaaaaaaaabna, ghk20naaaaaaaaabnba, ghk20naaaaaaaaabnbb, ghk20naaaaaaaabn, ghk20naaaaaaabn, ghk20naaaaaabn, ghk20naaaaabn, ghk20naaaabn, ghk20naaabn, ghk20naaba, ghk20naabbna, ghk20naabbnba, ghk20naabbnbb, ghk20nabn, ghk20nbna, ghk20nbnba, ghk20nbnbb, hk21, hk22, hk31, ghk33, hhk33, hk34, hk35] at fhk36
                              obtain rfl := so_some h
                              refine ⟨0, fun L hL => ?_⟩
                              simp only [go_sem, ir3, fhk1, hk2, fhk3, fhk4, fhk5, fhk6, fhk7, fhk8, fhk9, fhk10, fhk11, fhk12, fhk13, fhk14, fhk15, fhk16, fhk17, ghk18, hhk18, fhk18, ghk19, hhk19, fhk19, ghk20naaaaaaaaaan, ghk20naaaaaaaaabna, ghk20naaaaaaaaabnba, ghk20naaaaaaaaabnbb, ghk20naaaaaaaabn, ghk20naaaaaaabn, ghk20naaaaaabn, ghk20naaaaabn, ghk20naaaabn, ghk20naaabn, ghk20naaba, ghk20naabbna, ghk20naabbnba, ghk20naabbnbb, ghk20nabn, ghk20nbna, ghk20nbnba, ghk20nbnbb, hk21, hk22, hk31, fhk32, ghk33, hhk33, fhk33, hk34, hk35, fhk36]
                        · have ghk33n := no_f ghk33
                          rcases or_t ghk33n with ghk33na | ⟨ghk33na, ghk33nb⟩
                          · have ghk33nan := no_t ghk33na
                            try simp only [go_sem, n1, n2, n3, n4, hk2, ghk18, hhk18, ghk19, hhk19, ghk20naaaaaaaaaan, ghk20naaaaaaaaabna, ghk20naaaaaaaaabnba, ghk20naaaaaaaaabnbb, ghk20naaaaaaaabn, ghk20naaaaaaabn, ghk20naaaaaabn, ghk20naaaaabn, ghk20naaaabn, ghk20naaabn, ghk20naaba, ghk20naabbna, ghk20naabbnba, ghk20naabbnbb, ghk20nabn, ghk20nbna, ghk20nbnba, ghk20nbnbb, hk21, hk22, hk31] at ghk33nan
                            all_goals
                            rcases it_some h with ⟨hk34, h⟩ | ⟨hk34, h⟩
                            · try simp only [go_sem, n1, n2, n3, n4, hk2, ghk18, hhk18, ghk19, hhk19, ghk20naaaaaaaaaan, ghk20naaaaaaaaabna, ghk20naaaaaaaaabnba, ghk20naaaaaaaaabnbb, ghk20naaaaaaaabn, ghk20naaaaaaabn, ghk20naaaaaabn, ghk20naaaaabn, ghk20naaaabn, ghk20naaabn, ghk20naaba, ghk20naabbna, ghk20naabbnba, ghk20naabbnbb, ghk20nabn, ghk20nbna, ghk20nbnba, ghk20nbnbb, hk21, hk22, hk31, ghk33nan] at hk34
                              all_goals
                              obtain rfl := so_some h
                              refine ⟨0, fun L hL => ?_⟩
                              simp only [go_sem, ir3, fhk1, hk2, fhk3, fhk4, fhk5, fhk6, fhk7, fhk8, fhk9, fhk10, fhk11, fhk12, fhk13, fhk14, fhk15, fhk16, fhk17, ghk18, hhk18, fhk18, ghk19, hhk19, fhk19, ghk20naaaaaaaaaan, ghk20naaaaaaaaabna, ghk20naaaaaaaaabnba, ghk20naaaaaaaaabnbb, ghk20naaaaaaaabn, ghk20naaaaaaabn, ghk20naaaaaabn, ghk20naaaaabn, ghk20naaaabn, ghk20naaabn, ghk20naaba, ghk20naabbna, ghk20naabbnba, ghk20naabbnbb, ghk20nabn, ghk20nbna, ghk20nbnba, ghk20nbnbb, hk21, hk22, hk31, fhk32, ghk33nan, hk34]
                            · try simp only [go_sem, n1, n2, n3, n4, hk2, ghk18, hhk18, ghk19, hhk19, ghk20naaaaaaaaaan, ghk20naaaaaaaaabna, ghk20naaaaaaaaabnba, ghk20naaaaaaaaabnbb, ghk20naaaaaaaabn, ghk20naaaaaaabn, ghk20naaaaaabn, ghk20naaaaabn, ghk20naaaabn, ghk20naaabn, ghk20naaba, ghk20naabbna, ghk20naabbnba, ghk20naabbnbb, ghk20nabn, ghk20nbna, ghk20nbnba, ghk20nbnbb, hk21, hk22, hk31, ghk33nan] at hk34
                              all_goals
                              (simp_all)
                          · have ghk33nan := no_f ghk33na
                            have ghk33nbn := no_t ghk33nb
                            try simp only [go_sem, n1, n2, n3, n4, hk2, ghk18, hhk18, ghk19, hhk19, ghk20naaaaaaaaaan, ghk20naaaaaaaaabna, ghk20naaaaaaaaabnba, ghk20naaaaaaaaabnbb, ghk20naaaaaaaabn, ghk20naaaaaaabn, ghk20naaaaaabn, ghk20naaaaabn, ghk20naaaabn, ghk20naaabn, ghk20naaba, ghk20naabbna, ghk20naabbnba, ghk20naabbnbb, ghk20nabn, ghk20nbna, ghk20nbnba, ghk20nbnbb, hk21, hk22, hk31] at ghk33nan
                            all_goals
                            try simp only [go_sem, n1, n2, n3, n4, hk2, ghk18, hhk18, ghk19, hhk19, ghk20naaaaaaaaaan, ghk20naaaaaaaaabna, ghk20naaaaaaaaabnba, ghk20naaaaaaaaabnbb, ghk20naaaaaaaabn, ghk20naaaaaaabn, ghk20naaaaaabn, ghk20naaaaabn, ghk20naaaabn, ghk20naaabn, ghk20naaba, ghk20naabbna, ghk20naabbnba, ghk20naabbnbb, ghk20nabn, ghk20nbna, ghk20nbnba, ghk20nbnbb, hk21, hk22, hk31, ghk33nan] at ghk33nbn
                            all_goals
                            rcases it_some h with ⟨hk34, h⟩ | ⟨hk34, h⟩
                            · try simp only [go_sem, n1, n2, n3, n4, hk2, ghk18, hhk18, ghk19, hhk19, ghk20naaaaaaaaaan, ghk20naaaaaaaaabna, ghk20naaaaaaaaabnba, ghk20naaaaaaaaabnbb, ghk20naaaaaaaabn, ghk20naaaaaaabn, ghk20naaaaaabn, ghk20naaaaabn, ghk20naaaabn, ghk20naaabn, ghk20naaba, ghk20naabbna, ghk20naabbnba, ghk20naabbnbb, ghk20nabn, ghk20nbna, ghk20nbnba, ghk20nbnbb, hk21, hk22, hk31, ghk33nan, ghk33nbn] at hk34
                              all_goals
                              obtain rfl := so_some h
                              refine ⟨0, fun L hL => ?_⟩
                              simp only [go_sem, ir3, fhk1, hk2, fhk3, fhk4, fhk5, fhk6, fhk7, fhk8, fhk9, fhk10, fhk11, fhk12, fhk13, fhk14, fhk15, fhk16, fhk17, ghk18, hhk18, fhk18, ghk19, hhk19, fhk19, ghk20naaaaaaaaaan, ghk20naaaaaaaaabna, ghk20naaaaaaaaabnba, ghk20naaaaaaaaabnbb, ghk20naaaaaaaabn, ghk20naaaaaaabn, ghk20naaaaaabn, ghk20naaaaabn, ghk20naaaabn, ghk20naaabn, ghk20naaba, ghk20naabbna, ghk20naabbnba, ghk20naabbnbb, ghk20nabn, ghk20nbna, ghk20nbnba, ghk20nbnbb, hk21, hk22, hk31, fhk32, ghk33nan, ghk33nbn, hk34]
                            · try simp only [go_sem, n1, n2, n3, n4, hk2, ghk18, hhk18, ghk19, hhk19, ghk20naaaaaaaaaan, ghk20naaaaaaaaabna, ghk20naaaaaaaaabnba, ghk20naaaaaaaaabnbb, ghk20naaaaaaaabn, ghk20naaaaaaabn, ghk20naaaaaabn, ghk20naaaaabn, ghk20naaaabn, ghk20naaabn, ghk20naaba, ghk20naabbna, ghk20naabbnba, ghk20naabbnbb, ghk20nabn, ghk20nbna, ghk20nbnba, ghk20nbnbb, hk21, hk22, hk31, ghk33nan, ghk33nbn] at hk34
                              all_goals
                              (simp_all)
      · have ghk19n := no_f ghk19
        rcases or_t ghk19n with ghk19na | ⟨ghk19na, ghk19nb⟩
        · rcases or_t ghk19na with ghk19naa | ⟨ghk19naa, ghk19nab⟩
          · rcases or_t ghk19naa with ghk19naaa | ⟨ghk19naaa, ghk19naab⟩
            · rcases or_t ghk19naaa with ghk19naaaa | ⟨ghk19naaaa, ghk19naaab⟩
              · rcases or_t ghk19naaaa with ghk19naaaaa | ⟨ghk19naaaaa, ghk19naaaab⟩
                · try simp only [go_sem, n1, n2, n3, n4, hk2, ghk18, hhk18] at ghk19naaaaa
                  all_goals
                  (simp_all)
                · obtain ⟨ghk19naaaaaa, ghk19naaaaab⟩ := or_f ghk19naaaaa
                  obtain ⟨ghk19naaaaaaa, ghk19naaaaaab⟩ := or_f ghk19naaaaaa
                  obtain ⟨ghk19naaaaaaaa, ghk19naaaaaaab⟩ := or_f ghk19naaaaaaa
                  obtain ⟨ghk19naaaaaaaaa, ghk19naaaaaaaab⟩ := or_f ghk19naaaaaaaa
                  obtain ⟨ghk19naaaaaaaaaa, ghk19naaaaaaaaab⟩ := or_f ghk19naaaaaaaaa
                  have ghk19naaaaaaaaaan := no_f ghk19naaaaaaaaaa
                  have ghk19naaaaaaaaabn := no_f ghk19naaaaaaaaab
                  obtain ⟨ghk19naaaaaaaaabna, ghk19naaaaaaaaabnb⟩ := and_t ghk19naaaaaaaaabn
                  obtain ⟨ghk19naaaaaaaaabnba, ghk19naaaaaaaaabnbb⟩ := and_t ghk19naaaaaaaaabnb
                  have ghk19naaaaaaaabn := no_f ghk19naaaaaaaab
                  have ghk19naaaaaaabn := no_f ghk19naaaaaaab
                  have ghk19naaaaaabn := no_f ghk19naaaaaab
                  have ghk19naaaaabn := no_f ghk19naaaaab
                  have ghk19naaaabn := no_t ghk19naaaab
                  try simp only [go_sem, n1, n2, n3, n4, hk2, ghk18, hhk18] at ghk19naaaaaaaaaan
                  all_goals
                  try simp only [go_sem, n1, n2, n3, n4, hk2, ghk18, hhk18, ghk19naaaaaaaaaan] at ghk19naaaaaaaaabna
                  all_goals
                  try simp only [go_sem, n1, n2, n3, n4, hk2, ghk18, hhk18, ghk19naaaaaaaaaan, ghk19naaaaaaaaabna] at ghk19naaaaaaaaabnba
                  all_goals
                  try simp only [go_sem, n1, n2, n3, n4, hk2, ghk18, hhk18, ghk19naaaaaaaaaan, ghk19naaaaaaaaabna, ghk19naaaaaaaaabnba] at ghk19naaaaaaaaabnbb
                  all_goals
                  try simp only [go_sem, n1, n2, n3, n4, hk2, ghk18, hhk18, ghk19naaaaaaaaaan, ghk19naaaaaaaaabna, ghk19naaaaaaaaabnba, ghk19naaaaaaaaabnbb] at ghk19naaaaaaaabn
                  all_goals
                  try simp only [go_sem, n1, n2, n3, n4, hk2, ghk18, hhk18, ghk19naaaaaaaaaan, ghk19naaaaaaaaabna, ghk19naaaaaaaaabnba, ghk19naaaaaaaaabnbb, ghk19naaaaaaaabn] at ghk19naaaaaaabn
                  all_goals
                  try simp only [go_sem, n1, n2, n3, n4, hk2, ghk18, hhk18, ghk19naaaaaaaaaan, ghk19naaaaaaaaabna, ghk19naaaaaaaaabnba, ghk19naaaaaaaaabnbb, ghk19naaaaaaaabn, ghk19naaaaaaabn] at ghk19naaaaaabn
                  all_goals
                  try simp only [go_sem, n1, n2, n3, n4, hk2, ghk18, hhk18, ghk19naaaaaaaaaan, ghk19naaaaaaaaabna, ghk19naaaaaaaaabnba, ghk19naaaaaaaaabnbb, ghk19naaaaaaaabn, ghk19naaaaaaabn, ghk19naaaaaabn] at ghk19naaaaabn
                  all_goals
                  try simp only [go_sem, n1, n2, n3, n4, hk2, ghk18, hhk18, ghk19naaaaaaaaaan, ghk19naaaaaaaaabna, ghk19naaaaaaaaabnba, ghk19naaaaaaaaabnbb, ghk19naaaaaaaabn, ghk19naaaaaaabn, ghk19naaaaaabn, ghk19naaaaabn] at ghk19naaaabn
                  all_goals
                  obtain ⟨hk20, h⟩ := ck_some h
                  rcases it_some h with ⟨hk21, h⟩ | ⟨hk21, h⟩
                  · try simp only [go_sem, n1, n2, n3, n4, hk2, ghk18, hhk18, ghk19naaaaaaaaaan, ghk19naaaaaaaaabna, ghk19naaaaaaaaabnba, ghk19naaaaaaaaabnbb, ghk19naaaaaaaabn, ghk19naaaaaaabn, ghk19naaaaaabn, ghk19naaaaabn, ghk19naaaabn] at hk21
                    all_goals
                    obtain rfl := so_some h
                    refine ⟨0, fun L hL => ?_⟩
                    simp only [go_sem, ir3, fhk1, hk2, fhk3, fhk4, fhk5, fhk6, fhk7, fhk8, fhk9, fhk10, fhk11, fhk12, fhk13, fhk14, fhk15, fhk16, fhk17, ghk18, hhk18, fhk18, ghk19naaaaaaaaaan, ghk19naaaaaaaaabna, ghk19naaaaaaaaabnba, ghk19naaaaaaaaabnbb, ghk19naaaaaaaabn, ghk19naaaaaaabn, ghk19naaaaaabn, ghk19naaaaabn, ghk19naaaabn, hk21]
                  · try simp only [go_sem, n1, n2, n3, n4, hk2, ghk18, hhk18, ghk19naaaaaaaaaan, ghk19naaaaaaaaabna, ghk19naaaaaaaaabnba, ghk19naaaaaaaaabnbb, ghk19naaaaaaaabn, ghk19naaaaaaabn, ghk19naaaaaabn, ghk19naaaaabn, ghk19naaaabn] at hk21
                    all_goals
                    (simp_all)
              · obtain ⟨ghk19naaaaa, ghk19naaaab⟩ := or_f ghk19naaaa
                obtain ⟨ghk19naaaaaa, ghk19naaaaab⟩ := or_f ghk19naaaaa
                obtain ⟨ghk19naaaaaaa, ghk19naaaaaab⟩ := or_f ghk19naaaaaa
                obtain ⟨ghk19naaaaaaaa, ghk19naaaaaaab⟩ := or_f ghk19naaaaaaa
                obtain ⟨ghk19naaaaaaaaa, ghk19naaaaaaaab⟩ := or_f ghk19naaaaaaaa
                obtain ⟨ghk19naaaaaaaaaa, ghk19naaaaaaaaab⟩ := or_f ghk19naaaaaaaaa
                have ghk19naaaaaaaaaan := no_f ghk19naaaaaaaaaa
                have ghk19naaaaaaaaabn := no_f ghk19naaaaaaaaab
                obtain ⟨ghk19naaaaaaaaabna, ghk19naaaaaaaaabnb⟩ := and_t ghk19naaaaaaaaabn
                obtain ⟨ghk19naaaaaaaaabnba, ghk19naaaaaaaaabnbb⟩ := and_t ghk19naaaaaaaaabnb
                have ghk19naaaaaaaabn := no_f ghk19naaaaaaaab
                have ghk19naaaaaaabn := no_f ghk19naaaaaaab
                have ghk19naaaaaabn := no_f ghk19naaaaaab
                have ghk19naaaaabn := no_f ghk19naaaaab
                have ghk19naaaabn := no_f ghk19naaaab
                have ghk19naaabn := no_t ghk19naaab
                try simp only [go_sem, n1, n2, n3, n4, hk2, ghk18, hhk18] at ghk19naaaaaaaaaan
                all_goals
                try simp only [go_sem, n1, n2, n3, n4, hk2, ghk18, hhk18, ghk19naaaaaaaaaan] at ghk19naaaaaaaaabna
                all_goals
                try simp only [go_sem, n1, n2, n3, n4, hk2, ghk18, hhk18, ghk19naaaaaaaaaan, ghk19naaaaaaaaabna] at ghk19naaaaaaaaabnba
                all_goals
                try simp only [go_sem, n1, n2, n3, n4, hk2, ghk18, hhk18, ghk19naaaaaaaaaan, ghk19naaaaaaaaabna, ghk19naaaaaaaaabnba] at ghk19naaaaaaaaabnbb
                all_goals
                try simp only [go_sem, n1, n2, n3, n4, hk2, ghk18, hhk18, ghk19naaaaaaaaaan, ghk19naaaaaaaaabna, ghk19naaaaaaaaabnba, ghk19naaaaaaaaabnbb] at ghk19naaaaaaaabn
                all_goals
                try simp only [go_sem, n1, n2, n3, n4, hk2, ghk18, hhk18, ghk19naaaaaaaaaan, ghk19naaaaaaaaabna, ghk19naaaaaaaaabnba, ghk19naaaaaaaaabnbb, ghk19naaaaaaaabn] at ghk19naaaaaaabn
                all_goals
                try simp only [go_sem, n1, n2, n3, n4, hk2, ghk18, hhk18, ghk19naaaaaaaaaan, ghk19naaaaaaaaabna, ghk19naaaaaaaaabnba, ghk19naaaaaaaaabnbb, ghk19naaaaaaaabn, ghk19naaaaaaabn] at ghk19naaaaaabn
                all_goals
                try simp only [go_sem, n1, n2, n3, n4, hk2, ghk18, hhk18, ghk19naaaaaaaaaan, ghk19naaaaaaaaabna, ghk19naaaaaaaaabnba, ghk19naaaaaaaaabnbb, ghk19naaaaaaaabn, ghk19naaaaaaabn, ghk19naaaaaabn] at ghk19naaaaabn
                all_goals
                try simp only [go_sem, n1, n2, n3, n4, hk2, ghk18, hhk18, ghk19naaaaaaaaaan, ghk19naaaaaaaaabna, ghk19naaaaaaaaabnba, ghk19naaaaaaaaabnbb, ghk19naaaaaaaabn, ghk19naaaaaaabn, ghk19naaaaaabn, ghk19naaaaabn] at ghk19naaaabn
                all_goals
                try simp only [go_sem, n1, n2, n3, n4, hk2, ghk18, hhk18, ghk19naaaaaaaaaan, ghk19naaaaaaaaabna, ghk19naaaaaaaaabnba, ghk19naaaaaaaaabnbb, ghk19naaaaaaaabn, ghk19naaaaaaabn, ghk19naaaaaabn, ghk19naaaaabn, ghk19naaaabn] at ghk19naaabn
                all_goals
                obtain ⟨hk20, h⟩ := ck_some h
                rcases it_some h with ⟨hk21, h⟩ | ⟨hk21, h⟩
                · try simp only [go_sem, n1, n2, n3, n4, hk2, ghk18, hhk18, ghk19naaaaaaaaaan, ghk19naaaaaaaaabna, ghk19naaaaaaaaabnba, ghk19naaaaaaaaabnbb, ghk19naaaaaaaabn, ghk19naaaaaaabn, ghk19naaaaaabn, ghk19naaaaabn, ghk19naaaabn, ghk19naaabn] at hk21
                  all_goals
                  obtain rfl := so_some h
                  refine ⟨0, fun L hL => ?_⟩
                  simp only [go_sem, ir3, fhk1, hk2, fhk3, fhk4, fhk5, fhk6, fhk7, fhk8, fhk9, fhk10, fhk11, fhk12, fhk13, fhk14, fhk15, fhk16, fhk17, ghk18, hhk18, fhk18, ghk19naaaaaaaaaan, ghk19naaaaaaaaabna, ghk19naaaaaaaaabnba, ghk19naaaaaaaaabnbb, ghk19naaaaaaaabn, ghk19naaaaaaabn, ghk19naaaaaabn, ghk19naaaaabn, ghk19naaaabn, ghk19naaabn, hk21]
                · try simp only [go_sem, n1, n2, n3, n4, hk2, ghk18, hhk18, ghk19naaaaaaaaaan, ghk19naaaaaaaaabna, ghk19naaaaaaaaabnba, ghk19naaaaaaaaabnbb, ghk19naaaaaaaabn, ghk19naaaaaaabn, ghk19naaaaaabn, ghk19naaaaabn, ghk19naaaabn, ghk19naaabn] at hk21
                  all_goals
                  (simp_all)
            · obtain ⟨ghk19naaaa, ghk19naaab⟩ := or_f ghk19naaa
              obtain ⟨ghk19naaaaa, ghk19naaaab⟩ := or_f ghk19naaaa
              obtain ⟨ghk19naaaaaa, ghk19naaaaab⟩ := or_f ghk19naaaaa
              obtain ⟨ghk19naaaaaaa, ghk19naaaaaab⟩ := or_f ghk19naaaaaa
              obtain ⟨ghk19naaaaaaaa, ghk19naaaaaaab⟩ := or_f ghk19naaaaaaa
              obtain ⟨ghk19naaaaaaaaa, ghk19naaaaaaaab⟩ := or_f ghk19naaaaaaaa
              obtain ⟨ghk19naaaaaaaaaa, ghk19naaaaaaaaab⟩ := or_f ghk19naaaaaaaaa
              have ghk19naaaaaaaaaan := no_f ghk19naaaaaaaaaa
              have ghk19naaaaaaaaabn := no_f ghk19naaaaaaaaab
              obtain ⟨ghk19naaaaaaaaabna, ghk19naaaaaaaaabnb⟩ := and_t ghk19naaaaaaaaabn
              obtain ⟨ghk19naaaaaaaaabnba, ghk19naaaaaaaaabnbb⟩ := and_t ghk19naaaaaaaaabnb
              have ghk19naaaaaaaabn := no_f ghk19naaaaaaaab
              have ghk19naaaaaaabn := no_f ghk19naaaaaaab
              have ghk19naaaaaabn := no_f ghk19naaaaaab
              have ghk19naaaaabn := no_f ghk19naaaaab
              have ghk19naaaabn := no_f ghk19naaaab
              have ghk19naaabn := no_f ghk19naaab
              obtain ⟨ghk19naaba, ghk19naabb⟩ := and_t ghk19naab
              have ghk19naabbn := no_t ghk19naabb
              rcases and_f ghk19naabbn with ghk19naabbna | ⟨ghk19naabbna, ghk19naabbnb⟩
              · try simp only [go_sem, n1, n2, n3, n4, hk2, ghk18, hhk18] at ghk19naaaaaaaaaan
                all_goals
                try simp only [go_sem, n1, n2, n3, n4, hk2, ghk18, hhk18, ghk19naaaaaaaaaan] at ghk19naaaaaaaaabna
                all_goals
                try simp only [go_sem, n1, n2, n3, n4, hk2, ghk18, hhk18, ghk19naaaaaaaaaan, ghk19naaaaaaaaabna] at ghk19naaaaaaaaabnba
                all_goals
                try simp only [go_sem, n1, n2, n3, n4, hk2, ghk18, hhk18, ghk19naaaaaaaaaan, ghk19naaaaaaaaabna, ghk19naaaaaaaaabnba] at ghk19naaaaaaaaabnbb
                all_goals
                try simp only [go_sem, n1, n2, n3, n4, hk2, ghk18, hhk18, ghk19naaaaaaaaaan, ghk19naaaaaaaaabna, ghk19naaaaaaaaabnba, ghk19naaaaaaaaabnbb] at ghk19naaaaaaaabn
                all_goals
                try simp only [go_sem, n1, n2, n3, n4, hk2, ghk18, hhk18, ghk19naaaaaaaaaan, ghk19naaaaaaaaabna, ghk19naaaaaaaaabnba, ghk19naaaaaaaaabnbb, ghk19naaaaaaaabn] at ghk19naaaaaaabn
                all_goals
                try simp only [go_sem, n1, n2, n3, n4, hk2, ghk18, hhk18, ghk19naaaaaaaaaan, ghk19naaaaaaaaabna, ghk19naaaaaaaaabnba, ghk19naaaaaaaaabnbb, ghk19naaaaaaaabn, ghk19naaaaaaabn] at ghk19naaaaaabn
                all_goals
                try simp only [go_sem, n1, n2, n3, n4, hk2, ghk18, hhk18, ghk19naaaaaaaaaan, ghk19naaaaaaaaabna, ghk19naaaaaaaaabnba, ghk19naaaaaaaaabnbb, ghk19naaaaaaaabn, ghk19naaaaaaabn, ghk19naaaaaabn] at ghk19naaaaabn
                all_goals
                try simp only [go_sem, n1, n2, n3, n4, hk2, ghk18, hhk18, ghk19naaaaaaaaaan, ghk19naaaaaaaaabna, ghk19naaaaaaaaabnba, ghk19naaaaaaaaabnbb, ghk19naaaaaaaabn, ghk19naaaaaaabn, ghk19naaaaaabn, ghk19naaaaabn] at ghk19naaaabn
                all_goals
                try simp only [go_sem, n1, n2, n3, n4, hk2, ghk18, hhk18, ghk19naaaaaaaaaan, ghk19naaaaaaaaabna, ghk19naaaaaaaaabnba, ghk19naaaaaaaaabnbb, ghk19naaaaaaaabn, ghk19naaaaaaabn, ghk19naaaaaabn, ghk19naaaaabn, ghk19naaaabn] at ghk19naaabn
                all_goals
                try simp only [go_sem, n1, n2, n3, n4, hk2, ghk18, hhk18, ghk19naaaaaaaaaan, ghk19naaaaaaaaabna, ghk19naaaaaaaaabnba, ghk19naaaaaaaaabnbb, ghk19naaaaaaaabn, ghk19naaaaaaabn, ghk19naaaaaabn, ghk19naaaaabn, ghk19naaaabn, ghk19naaabn] at ghk19naaba
                all_goals
                try simp only [go_sem, n1, n2, n3, n4, hk2, ghk18, hhk18, ghk19naaaaaaaaaan, ghk19naaaaaaaaabna, ghk19naaaaaaaaabnba, ghk19naaaaaaaaabnbb, ghk19naaaaaaaabn, ghk19naaaaaaabn, ghk19naaaaaabn, ghk19naaaaabn, ghk19naaaabn, ghk19naaabn, ghk19naaba] at ghk19naabbna
                all_goals
                obtain ⟨hk20, h⟩ := ck_some h
                rcases it_some h with ⟨hk21, h⟩ | ⟨hk21, h⟩
                · try simp only [go_sem, n1, n2, n3, n4, hk2, ghk18, hhk18, ghk19naaaaaaaaaan, ghk19naaaaaaaaabna, ghk19naaaaaaaaabnba, ghk19naaaaaaaaabnbb, ghk19naaaaaaaabn, ghk19naaaaaaabn, ghk19naaaaaabn, ghk19naaaaabn, ghk19naaaabn, ghk19naaabn, ghk19naaba, ghk19naabbna] at hk21
                  all_goals
                  obtain rfl := so_some h
                  refine ⟨0, fun L hL => ?_⟩
                  simp only [go_sem, ir3, fhk1, hk2, fhk3, fhk4, fhk5, fhk6, fhk7, fhk8, fhk9, fhk10, fhk11, fhk12, fhk13, fhk14, fhk15, fhk16, fhk17, ghk18, hhk18, fhk18, ghk19naaaaaaaaaan, ghk19naaaaaaaaabna, ghk19naaaaaaaaabnba, ghk19naaaaaaaaabnbb, ghk19naaaaaaaabn, ghk19naaaaaaabn, ghk19naaaaaabn, ghk19naaaaabn, ghk19naaaabn, ghk19naaabn, ghk19naaba, ghk19naabbna, hk21]
                · try simp only [go_sem, n1, n2, n3, n4, hk2, ghk18, hhk18, ghk19naaaaaaaaaan, ghk19naaaaaaaaabna, ghk19naaaaaaaaabnba, ghk19naaaaaaaaabnbb, ghk19naaaaaaaabn, ghk19naaaaaaabn, ghk19naaaaaabn, ghk19naaaaabn, ghk19naaaabn, ghk19naaabn, ghk19naaba, ghk19naabbna] at hk21
                  all_goals
                  (simp_all)
              · rcases and_f ghk19naabbnb with ghk19naabbnba | ⟨ghk19naabbnba, ghk19naabbnbb⟩
                · try simp only [go_sem, n1, n2, n3, n4, hk2, ghk18, hhk18] at ghk19naaaaaaaaaan
                  all_goals
                  try simp only [go_sem, n1, n2, n3, n4, hk2, ghk18, hhk18, ghk19naaaaaaaaaan] at ghk19naaaaaaaaabna
                  all_goals
                  try simp only [go_sem, n1, n2, n3, n4, hk2, ghk18, hhk18, ghk19naaaaaaaaaan, ghk19naaaaaaaaabna] at ghk19naaaaaaaaabnba
                  all_goals
                  try simp only [go_sem, n1, n2, n3, n4, hk2, ghk18, hhk18, ghk19naaaaaaaaaan, ghk19naaaaaaaaabna, ghk19naaaaaaaaabnba] at ghk19naaaaaaaaabnbb
                  all_goals
                  try simp only [go_sem, n1, n2, n3, n4, hk2, ghk18, hhk18, ghk19naaaaaaaaaan, ghk19naaaaaaaaabna, ghk19naaaaaaaaabnba, ghk19naaaaaaaaabnbb] at ghk19naaaaaaaabn
                  all_goals
                  try simp only [go_sem, n1, n2, n3, n4, hk2, ghk18, hhk18, ghk19naaaaaaaaaan, ghk19naaaaaaaaabna, ghk19naaaaaaaaabnba, ghk19naaaaaaaaabnbb, ghk19naaaaaaaabn] at ghk19naaaaaaabn
                  all_goals
                  try simp only [go_sem, n1, n2, n3, n4, hk2, ghk18, hhk18, ghk19naaaaaaaaaan, ghk19naaaaaaaaabna, ghk19naaaaaaaaabnba, ghk19naaaaaaaaabnbb, ghk19naaaaaaaabn, ghk19naaaaaaabn] at ghk19naaaaaabn
                  all_goals
                  try simp only [go_sem, n1, n2, n3, n4, hk2, ghk18, hhk18, ghk19naaaaaaaaaan, ghk19naaaaaaaaabna, ghk19naaaaaaaaabnba, ghk19naaaaaaaaabnbb, ghk19naaaaaaaabn, ghk19naaaaaaabn, ghk19naaaaaabn] at ghk19naaaaabn
                  all_goals
                  try simp only [go_sem, n1, n2, n3, n4, hk2, ghk18, hhk18, ghk19naaaaaaaaaan, ghk19naaaaaaaaabna, ghk19naaaaaaaaabnba, ghk19naaaaaaaaabnbb, ghk19naaaaaaaabn, ghk19naaaaaaabn, ghk19naaaaaabn, ghk19naaaaabn] at ghk19naaaabn
                  all_goals
                  try simp only [go_sem, n1, n2, n3, n4, hk2, ghk18, hhk18, ghk19naaaaaaaaaan, ghk19naaaaaaaaabna, ghk19naaaaaaaaabnba, ghk19naaaaaaaaabnbb, ghk19naaaaaaaabn, ghk19naaaaaaabn, ghk19naaaaaabn, ghk19naaaaabn, ghk19naaaabn] at ghk19naaabn
                  all_goals
                  try simp only [go_sem, n1, n2, n3, n4, hk2, ghk18, hhk18, ghk19naaaaaaaaaan, ghk19naaaaaaaaabna, ghk19naaaaaaaaabnba, ghk19naaaaaaaaabnbb, ghk19naaaaaaaabn, ghk19naaaaaaabn, ghk19naaaaaabn, ghk19naaaaabn, ghk19naaaabn, ghk19naaabn] at ghk19naaba
                  all_goals
                  try simp only [go_sem, n1, n2, n3, n4, hk2, ghk18, hhk18, ghk19naaaaaaaaaan, ghk19naaaaaaaaabna, ghk19naaaaaaaaabnba, ghk19naaaaaaaaabnbb, ghk19naaaaaaaabn, ghk19naaaaaaabn, ghk19naaaaaabn, ghk19naaaaabn, ghk19naaaabn, ghk19naaabn, ghk19naaba] at ghk19naabbna
                  all_goals
                  try simp only [go_sem, n1, n2, n3, n4, hk2, ghk18, hhk18, ghk19naaaaaaaaaan, ghk19naaaaaaaaabna, ghk19naaaaaaaaabnba, ghk19naaaaaaaaabnbb, ghk19naaaaaaaabn, ghk19naaaaaaabn, ghk19naaaaaabn, ghk19naaaaabn, ghk19naaaabn, ghk19naaabn, ghk19naaba, ghk19naabbna] at ghk19naabbnba
                  all_goals
                  obtain ⟨hk20, h⟩ := ck_some h
                  rcases it_some h with ⟨hk21, h⟩ | ⟨hk21, h⟩
                  · try simp only [go_sem, n1, n2, n3, n4, hk2, ghk18, hhk18, ghk19naaaaaaaaaan, ghk19naaaaaaaaabna, ghk19naaaaaaaaabnba, ghk19naaaaaaaaabnbb, ghk19naaaaaaaabn, ghk19naaaaaaabn, ghk19naaaaaabn, ghk19naaaaabn, ghk19naaaabn, ghk19naaabn, ghk19naaba, ghk19naabbna, ghk19naabbnba] at hk21
                    all_goals
                    obtain rfl := so_some h
                    refine ⟨0, fun L hL => ?_⟩
                    simp only [go_sem, ir3, fhk1, hk2, fhk3, fhk4, fhk5, fhk6, fhk7, fhk8, fhk9, fhk10, fhk11, fhk12, fhk13, fhk14, fhk15, fhk16, fhk17, ghk18, hhk18, fhk18, ghk19naaaaaaaaaan, ghk19naaaaaaaaabna, ghk19naaaaaaaaabnba, ghk19naaaaaaaaabnbb, ghk19naaaaaaaabn, ghk19naaaaaaabn, ghk19naaaaaabn, ghk19naaaaabn, ghk19naaaabn, ghk19naaabn, ghk19naaba, ghk19naabbna, ghk19naabbnba, hk21]
                  · try simp only [go_sem, n1, n2, n3, n4, hk2, ghk18, hhk18, ghk19naaaaaaaaaan, ghk19naaaaaaaaabna, ghk19naaaaaaaaabnba, ghk19naaaaaaaaabnbb, ghk19naaaaaaaabn, ghk19naaaaaaabn, ghk19naaaaaabn, ghk19naaaaabn, ghk19naaaabn, ghk19naaabn, ghk19naaba, ghk19naabbna, ghk19naabbnba] at hk21
                    all_goals
                    (simp_all)
                · try simp only [go_sem, n1, n2, n3, n4, hk2, ghk18, hhk18] at ghk19naaaaaaaaaan
                  all_goals
                  try simp only [go_sem, n1, n2, n3, n4, hk2, ghk18, hhk18, ghk19naaaaaaaaaan] at ghk19naaaaaaaaabna
                  all_goals
                  try simp only [go_sem, n1, n2, n3, n4, hk2, ghk18, hhk18, ghk19naaaaaaaaaan, ghk19naaaaaaaaabna] at ghk19naaaaaaaaabnba
                  all_goals
                  try simp only [go_sem, n1, n2, n3, n4, hk2, ghk18, hhk18, ghk19naaaaaaaaaan, ghk19naaaaaaaaabna, ghk19naaaaaaaaabnba] at ghk19naaaaaaaaabnbb
                  all_goals
                  try simp only [go_sem, n1, n2, n3, n4, hk2, ghk18, hhk18, ghk19naaaaaaaaaan, ghk19naaaaaaaaabna, ghk19naaaaaaaaabnba, ghk19naaaaaaaaabnbb] at ghk19naaaaaaaabn
                  all_goals
                  try simp only [go_sem, n1, n2, n3, n4, hk2, ghk18, hhk18, ghk19naaaaaaaaaan, ghk19naaaaaaaaabna, ghk19naaaaaaaaabnba, ghk19naaaaaaaaabnbb, ghk19naaaaaaaabn] at ghk19naaaaaaabn
                  all_goals
                  try simp only [go_sem, n1, n2, n3, n4, hk2, ghk18, hhk18, ghk19naaaaaaaaaan, ghk19naaaaaaaaabna, ghk19naaaaaaaaabnba, ghk19naaaaaaaaabnbb, ghk19naaaaaaaabn, ghk19naaaaaaabn] at ghk19naaaaaabn
                  all_goals
                  try simp only [go_sem, n1, n2, n3, n4, hk2, ghk18, hhk18, ghk19naaaaaaaaaan, ghk19naaaaaaaaabna, ghk19naaaaaaaaabnba, ghk19naaaaaaaaabnbb, ghk19naaaaaaaabn, ghk19naaaaaaabn, ghk19naaaaaabn] at ghk19naaaaabn
                  all_goals
                  try simp only [go_sem, n1, n2, n3, n4, hk2, ghk18, hhk18, ghk19naaaaaaaaaan, ghk19naaaaaaaaabna, ghk19naaaaaaaaabnba, ghk19naaaaaaaaabnbb, ghk19naaaaaaaabn, ghk19naaaaaaabn, ghk19naaaaaabn, ghk19naaaaabn] at ghk19naaaabn
                  all_goals
                  try simp only [go_sem, n1, n2, n3, n4, hk2, ghk18, hhk18, ghk19naaaaaaaaaan, ghk19naaaaaaaaabna, ghk19naaaaaaaaabnba, ghk19naaaaaaaaabnbb, ghk19naaaaaaaabn, ghk19naaaaaaabn, ghk19naaaaaabn, ghk19naaaaabn, ghk19naaaabn] at ghk19naaabn
                  all_goals
                  try simp only [go_sem, n1, n2, n3, n4, hk2, ghk18, hhk18, ghk19naaaaaaaaaan, ghk19naaaaaaaaabna, ghk19naaaaaaaaabnba, ghk19naaaaaaaaabnbb, ghk19naaaaaaaabn, ghk19naaaaaaabn, ghk19naaaaaabn, ghk19naaaaabn, ghk19naaaabn, ghk19naaabn] at ghk19naaba
                  all_goals
                  try simp only [go_sem, n1, n2, n3, n4, hk2, ghk18, hhk18, ghk19naaaaaaaaaan, ghk19naaaaaaaaabna, ghk19naaaaaaaaabnba, ghk19naaaaaaaaabnbb, ghk19naaaaaaaabn, ghk19naaaaaaabn, ghk19naaaaaabn, ghk19naaaaabn, ghk19naaaabn, ghk19naaabn, ghk19naaba] at ghk19naabbna
                  all_goals
                  try simp only [go_sem, n1, n2, n3, n4, hk2, ghk18, hhk18, ghk19naaaaaaaaaan, ghk19naaaaaaaaabna, ghk19naaaaaaaaabnba, ghk19naaaaaaaaabnbb, ghk19naaaaaaaabn, ghk19naaaaaaabn, ghk19naaaaaabn, ghk19naaaaabn, ghk19naaaabn, ghk19naaabn, ghk19naaba, ghk19naabbna] at ghk19naabbnba
                  all_goals
                  try simp only [go_sem, n1, n2, n3, n4, hk2, ghk18, hhk18, ghk19naaaaaaaaaan, ghk19naaaaaaaaabna, ghk19naaaaaaaaabnba, ghk19naaaaaaaaabnbb, ghk19naaaaaaaabn, ghk19naaaaaaabn, ghk19naaaaaabn, ghk19naaaaabn, ghk19naaaabn, ghk19naaabn, ghk19naaba, ghk19naabbna, ghk19naabbnba] at ghk19naabbnbb
                  all_goals
                  obtain ⟨hk20, h⟩ := ck_some h
                  rcases it_some h with ⟨hk21, h⟩ | ⟨hk21, h⟩
                  · try simp only [go_sem, n1, n2, n3, n4, hk2, ghk18, hhk18, ghk19naaaaaaaaaan, ghk19naaaaaaaaabna, ghk19naaaaaaaaabnba, ghk19naaaaaaaaabnbb, ghk19naaaaaaaabn, ghk19naaaaaaabn, ghk19naaaaaabn, ghk19naaaaabn, ghk19naaaabn, ghk19naaabn, ghk19naaba, ghk19naabbna, ghk19naabbnba, ghk19naabbnbb] at hk21
                    all_goals
                    obtain rfl := so_some h
                    refine ⟨0, fun L hL => ?_⟩
                    simp only [go_sem, ir3, fhk1, hk2, fhk3, fhk4, fhk5, fhk6, fhk7, fhk8, fhk9, fhk10, fhk11, fhk12, fhk13, fhk14, fhk15, fhk16, fhk17, ghk18, hhk18, fhk18, ghk19naaaaaaaaaan, ghk19naaaaaaaaabna, ghk19naaaaaaaaabnba, ghk19naaaaaaaaabnbb, ghk19naaaaaaaabn, ghk19naaaaaaabn, ghk19naaaaaabn, ghk19naaaaabn, ghk19naaaabn, ghk19naaabn, ghk19naaba, ghk19naabbna, ghk19naabbnba, ghk19naabbnbb, hk21]
                  · try simp only [go_sem, n1, n2, n3, n4, hk2, ghk18, hhk18, ghk19naaaaaaaaaan, ghk19naaaaaaaaabna, ghk19naaaaaaaaabnba, ghk19naaaaaaaaabnbb, ghk19naaaaaaaabn, ghk19naaaaaaabn, ghk19naaaaaabn, ghk19naaaaabn, ghk19naaaabn, ghk19naaabn, ghk19naaba, ghk19naabbna, ghk19naabbnba, ghk19naabbnbb] at hk21
                    all_goals
                    (simp_all)
          · obtain ⟨ghk19naaa, ghk19naab⟩ := or_f ghk19naa
            obtain ⟨ghk19naaaa, ghk19naaab⟩ := or_f ghk19naaa
            obtain ⟨ghk19naaaaa, ghk19naaaab⟩ := or_f ghk19naaaa
            obtain ⟨ghk19naaaaaa, ghk19naaaaab⟩ := or_f ghk19naaaaa
            obtain ⟨ghk19naaaaaaa, ghk19naaaaaab⟩ := or_f ghk19naaaaaa
            obtain ⟨ghk19naaaaaaaa, ghk19naaaaaaab⟩ := or_f ghk19naaaaaaa
            obtain ⟨ghk19naaaaaaaaa, ghk19naaaaaaaab⟩ := or_f ghk19naaaaaaaa
            obtain ⟨ghk19naaaaaaaaaa, ghk19naaaaaaaaab⟩ := or_f ghk19naaaaaaaaa
            have ghk19naaaaaaaaaan := no_f ghk19naaaaaaaaaa
            have ghk19naaaaaaaaabn := no_f ghk19naaaaaaaaab
            obtain ⟨ghk19naaaaaaaaabna, ghk19naaaaaaaaabnb⟩ := and_t ghk19naaaaaaaaabn
            obtain ⟨ghk19naaaaaaaaabnba, ghk19naaaaaaaaabnbb⟩ := and_t ghk19naaaaaaaaabnb
            have ghk19naaaaaaaabn := no_f ghk19naaaaaaaab
            have ghk19naaaaaaabn := no_f ghk19naaaaaaab
            have ghk19naaaaaabn := no_f ghk19naaaaaab
            have ghk19naaaaabn := no_f ghk19naaaaab
            have ghk19naaaabn := no_f ghk19naaaab
            have ghk19naaabn := no_f ghk19naaab
            rcases and_f ghk19naab with ghk19naaba | ⟨ghk19naaba, ghk19naabb⟩
            · have ghk19nabn := no_t ghk19nab
              try simp only [go_sem, n1, n2, n3, n4, hk2, ghk18, hhk18] at ghk19naaaaaaaaaan
              all_goals
              try simp only [go_sem, n1, n2, n3, n4, hk2, ghk18, hhk18, ghk19naaaaaaaaaan] at ghk19naaaaaaaaabna
              all_goals
              try simp only [go_sem, n1, n2, n3, n4, hk2, ghk18, hhk18, ghk19naaaaaaaaaan, ghk19naaaaaaaaabna] at ghk19naaaaaaaaabnba
              all_goals
              try simp only [go_sem, n1, n2, n3, n4, hk2, ghk18, hhk18, ghk19naaaaaaaaaan, ghk19naaaaaaaaabna, ghk19naaaaaaaaabnba] at ghk19naaaaaaaaabnbb
              all_goals
              try simp only [go_sem, n1, n2, n3, n4, hk2, ghk18, hhk18, ghk19naaaaaaaaaan, ghk19naaaaaaaaabna, ghk19naaaaaaaaabnba, ghk19naaaaaaaaabnbb] at ghk19naaaaaaaabn
              all_goals
              try simp only [go_sem, n1, n2, n3, n4, hk2, ghk18, hhk18, ghk19naaaaaaaaaan, ghk19naaaaaaaaabna, ghk19naaaaaaaaabnba, ghk19naaaaaaaaabnbb, ghk19naaaaaaaabn] at ghk19naaaaaaabn
              all_goals
              try simp only [go_sem, n1, n2, n3, n4, hk2, ghk18, hhk18, ghk19naaaaaaaaaan, ghk19naaaaaaaaabna, ghk19naaaaaaaaabnba, ghk19naaaaaaaaabnbb, ghk19naaaaaaaabn, ghk19naaaaaaabn] at ghk19naaaaaabn
              all_goals
              try simp only [go_sem, n1, n2, n3, n4, hk2, ghk18, hhk18, ghk19naaaaaaaaaan, ghk19naaaaaaaaabna, ghk19naaaaaaaaabnba, ghk19naaaaaaaaabnbb, ghk19naaaaaaaabn, ghk19naaaaaaabn, ghk19naaaaaabn] at ghk19naaaaabn
              all_goals
              try simp only [go_sem, n1, n2, n3, n4, hk2, ghk18, hhk18, ghk19naaaaaaaaaan, ghk19naaaaaaaaabna, ghk19naaaaaaaaabnba, ghk19naaaaaaaaabnbb, ghk19naaaaaaaabn, ghk19naaaaaaabn, ghk19naaaaaabn, ghk19naaaaabn] at ghk19naaaabn
              all_goals
              try simp only [go_sem, n1, n2, n3, n4, hk2, ghk18, hhk18, ghk19naaaaaaaaaan, ghk19naaaaaaaaabna, ghk19naaaaaaaaabnba, ghk19naaaaaaaaabnbb, ghk19naaaaaaaabn, ghk19naaaaaaabn, ghk19naaaaaabn, ghk19naaaaabn, ghk19naaaabn] at ghk19naaabn
              all_goals
              try simp only [go_sem, n1, n2, n3, n4, hk2, ghk18, hhk18, ghk19naaaaaaaaaan, ghk19naaaaaaaaabna, ghk19naaaaaaaaabnba, ghk19naaaaaaaaabnbb, ghk19naaaaaaaabn, ghk19naaaaaaabn, ghk19naaaaaabn, ghk19naaaaabn, ghk19naaaabn, ghk19naaabn] at ghk19naaba
              all_goals
              try simp only [go_sem, n1, n2, n3, n4, hk2, ghk18, hhk18, ghk19naaaaaaaaaan, ghk19naaaaaaaaabna, ghk19naaaaaaaaabnba, ghk19naaaaaaaaabnbb, ghk19naaaaaaaabn, ghk19naaaaaaabn, ghk19naaaaaabn, ghk19naaaaabn, ghk19naaaabn, ghk19naaabn, ghk19naaba] at ghk19nabn
              all_goals
              obtain ⟨hk20, h⟩ := ck_some h
              rcases it_some h with ⟨hk21, h⟩ | ⟨hk21, h⟩
              · try simp only [go_sem, n1, n2, n3, n4, hk2, ghk18, hhk18, ghk19naaaaaaaaaan, ghk19naaaaaaaaabna, ghk19naaaaaaaaabnba, ghk19naaaaaaaaabnbb, ghk19naaaaaaaabn, ghk19naaaaaaabn, ghk19naaaaaabn, ghk19naaaaabn, ghk19naaaabn, ghk19naaabn, ghk19naaba, ghk19nabn] at hk21
                all_goals
                obtain rfl := so_some h
                refine ⟨0, fun L hL => ?_⟩
                simp only [go_sem, ir3, fhk1, hk2, fhk3, fhk4, fhk5, fhk6, fhk7, fhk8, fhk9, fhk10, fhk11, fhk12, fhk13, fhk14, fhk15, fhk16, fhk17, ghk18, hhk18, fhk18, ghk19naaaaaaaaaan, ghk19naaaaaaaaabna, ghk19naaaaaaaaabnba, ghk19naaaaaaaaabnbb, ghk19naaaaaaaabn, ghk19naaaaaaabn, ghk19naaaaaabn, ghk19naaaaabn, ghk19naaaabn, ghk19naaabn, ghk19naaba, ghk19nabn, hk21]
              · try simp only [go_sem, n1, n2, n3, n4, hk2, ghk18, hhk18, ghk19naaaaaaaaaan, ghk19naaaaaaaaabna, ghk19naaaaaaaaabnba, ghk19naaaaaaaaabnbb, ghk19naaaaaaaabn, ghk19naaaaaaabn, ghk19naaaaaabn, ghk19naaaaabn, ghk19naaaabn, ghk19naaabn, ghk19naaba, ghk19nabn] at hk21
                all_goals
                (simp_all)
            · have ghk19naabbn := no_f ghk19naabb
              obtain ⟨ghk19naabbna, ghk19naabbnb⟩ := and_t ghk19naabbn
              obtain ⟨ghk19naabbnba, ghk19naabbnbb⟩ := and_t ghk19naabbnb
              have ghk19nabn := no_t ghk19nab
              try simp only [go_sem, n1, n2, n3, n4, hk2, ghk18, hhk18] at ghk19naaaaaaaaaan
              all_goals
              try simp only [go_sem, n1, n2, n3, n4, hk2, ghk18, hhk18, ghk19naaaaaaaaaan] at ghk19naaaaaaaaabna
              all_goals
              try simp only [go_sem, n1, n2, n3, n4, hk2, ghk18, hhk18, ghk19naaaaaaaaaan, ghk19naaaaaaaaabna] at ghk19naaaaaaaaabnba
              all_goals
              try simp only [go_sem, n1, n2, n3, n4, hk2, ghk18, hhk18, ghk19naaaaaaaaaan, ghk19naaaaaaaaabna, ghk19naaaaaaaaabnba] at ghk19naaaaaaaaabnbb
              all_goals
              try simp only [go_sem, n1, n2, n3, n4, hk2, ghk18, hhk18, ghk19naaaaaaaaaan, ghk19naaaaaaaaabna, ghk19naaaaaaaaabnba, ghk19naaaaaaaaabnbb] at ghk19naaaaaaaabn
              all_goals
              try simp only [go_sem, n1, n2, n3, n4, hk2, ghk18, hhk18, ghk19naaaaaaaaaan, ghk19naaaaaaaaabna, ghk19naaaaaaaaabnba, ghk19naaaaaaaaabnbb, ghk19naaaaaaaabn] at ghk19naaaaaaabn
              all_goals
              try simp only [go_sem, n1, n2, n3, n4, hk2, ghk18, hhk18, ghk19naaaaaaaaaan, ghk19naaaaaaaaabna, ghk19naaaaaaaaabnba, ghk19naaaaaaaaabnbb, ghk19naaaaaaaabn, ghk19naaaaaaabn] at ghk19naaaaaabn
              all_goals
              try simp only [go_sem, n1, n2, n3, n4, hk2, ghk18, hhk18, ghk19naaaaaaaaaan, ghk19naaaaaaaaabna, ghk19naaaaaaaaabnba, ghk19naaaaaaaaabnbb, ghk19naaaaaaaabn, ghk19naaaaaaabn, ghk19naaaaaabn] at ghk19naaaaabn
              all_goals
              try simp only [go_sem, n1, n2, n3, n4, hk2, ghk18, hhk18, ghk19naaaaaaaaaan, ghk19naaaaaaaaabna, ghk19naaaaaaaaabnba, ghk19naaaaaaaaabnbb, ghk19naaaaaaaabn, ghk19naaaaaaabn, ghk19naaaaaabn, ghk19naaaaabn] at ghk19naaaabn
              all_goals
              try simp only [go_sem, n1, n2, n3, n4, hk2, ghk18, hhk18, ghk19naaaaaaaaaan, ghk19naaaaaaaaabna, ghk19naaaaaaaaabnba, ghk19naaaaaaaaabnbb, ghk19naaaaaaaabn, ghk19naaaaaaabn, ghk19naaaaaabn, ghk19naaaaabn, ghk19naaaabn] at ghk19naaabn
              all_goals
              try simp only [go_sem, n1, n2, n3, n4, hk2, ghk18, hhk18, ghk19naaaaaaaaaan, ghk19naaaaaaaaabna, ghk19naaaaaaaaabnba, ghk19naaaaaaaaabnbb, ghk19naaaaaaaabn, ghk19naaaaaaabn, ghk19naaaaaabn, ghk19naaaaabn, ghk19naaaabn, ghk19naaabn] at ghk19naaba
              all_goals
              try simp only [go_sem, n1, n2, n3, n4, hk2, ghk18, hhk18, ghk19naaaaaaaaaan, ghk19naaaaaaaaabna, ghk19naaaaaaaaabnba, ghk19naaaaaaaaabnbb, ghk19naaaaaaaabn, ghk19naaaaaaabn, ghk19naaaaaabn, ghk19naaaaabn, ghk19naaaabn, ghk19naaabn, ghk19naaba] at ghk19naabbna
              all_goals
              try simp only [go_sem, n1, n2, n3, n4, hk2, ghk18, hhk18, ghk19naaaaaaaaaan, ghk19naaaaaaaaabna, ghk19naaaaaaaaabnba, ghk19naaaaaaaaabnbb, ghk19naaaaaaaabn, ghk19naaaaaaabn, ghk19naaaaaabn, ghk19naaaaabn, ghk19naaaabn, ghk19naaabn, ghk19naaba, ghk19naabbna] at ghk19naabbnba
              all_goals
              try simp only [go_sem, n1, n2, n3, n4, hk2, ghk18, hhk18, ghk19naaaaaaaaaan, ghk19naaaaaaaaabna, ghk19naaaaaaaaabnba, ghk19naaaaaaaaabnbb, ghk19naaaaaaaabn, ghk19naaaaaaabn, ghk19naaaaaabn, ghk19naaaaabn, ghk19naaaabn, ghk19naaabn, ghk19naaba, ghk19naabbna, ghk19naabbnba] at ghk19naabbnbb
              all_goals
              try simp only [go_sem, n1, n2, n3, n4, hk2, ghk18, hhk18, ghk19naaaaaaaaaan, ghk19naaaaaaaaabna, ghk19naaaaaaaaabnba, ghk19naaaaaaaaabnbb, ghk19naaaaaaaabn, ghk19naaaaaaabn, ghk19naaaaaabn, ghk19naaaaabn, ghk19naaaabn, ghk19naaabn, ghk19naaba, ghk19naabbna, ghk19naabbnba, ghk19naabbnbb] at ghk19nabn
              all_goals
              obtain ⟨hk20, h⟩ := ck_some h
              rcases it_some h with ⟨hk21, h⟩ | ⟨hk21, h⟩
              · try simp only [go_sem, n1, n2, n3, n4, hk2, ghk18, hhk18, ghk19naaaaaaaaaan, ghk19naaaaaaaaabna, ghk19naaaaaaaaabnba, ghk19naaaaaaaaabnbb, ghk19naaaaaaaabn, ghk19naaaaaaabn, ghk19naaaaaabn, ghk19naaaaabn, ghk19naaaabn, ghk19naaabn, ghk19naaba, ghk19naabbna, ghk19naabbnba, ghk19naabbnbb, ghk19nabn] at hk21
                all_goals
                obtain rfl := so_some h
                refine ⟨0, fun L hL => ?_⟩
                simp only [go_sem, ir3, fhk1, hk2, fhk3, fhk4, fhk5, fhk6, fhk7, fhk8, fhk9, fhk10, fhk11, fhk12, fhk13, fhk14, fhk15, fhk16, fhk17, ghk18, hhk18, fhk18, ghk19naaaaaaaaaan, ghk19naaaaaaaaabna, ghk19naaaaaaaaabnba, ghk19naaaaaaaaabnbb, ghk19naaaaaaaabn, ghk19naaaaaaabn, ghk19naaaaaabn, ghk19naaaaabn, ghk19naaaabn, ghk19naaabn, ghk19naaba, ghk19naabbna, ghk19naabbnba, ghk19naabbnbb, ghk19nabn, hk21]
              · try simp only [go_sem, n1, n2, n3, n4, hk2, ghk18, hhk18, ghk19naaaaaaaaaan, ghk19naaaaaaaaabna, ghk19naaaaaaaaabnba, ghk19naaaaaaaaabnbb, ghk19naaaaaaaabn, ghk19naaaaaaabn, ghk19naaaaaabn, ghk19naaaaabn, ghk19naaaabn, ghk19naaabn, ghk19naaba, ghk19naabbna, ghk19naabbnba, ghk19naabbnbb, ghk19nabn] at hk21
                all_goals
                (simp_all)
        · obtain ⟨ghk19naa, ghk19nab⟩ := or_f ghk19na
          obtain ⟨ghk19naaa, ghk19naab⟩ := or_f ghk19naa
          obtain ⟨ghk19naaaa, ghk19naaab⟩ := or_f ghk19naaa
          obtain ⟨ghk19naaaaa, ghk19naaaab⟩ := or_f ghk19naaaa
          obtain ⟨ghk19naaaaaa, ghk19naaaaab⟩ := or_f ghk19naaaaa
          obtain ⟨ghk19naaaaaaa, ghk19naaaaaab⟩ := or_f ghk19naaaaaa
          obtain ⟨ghk19naaaaaaaa, ghk19naaaaaaab⟩ := or_f ghk19naaaaaaa
          obtain ⟨ghk19naaaaaaaaa, ghk19naaaaaaaab⟩ := or_f ghk19naaaaaaaa
          obtain ⟨ghk19naaaaaaaaaa, ghk19naaaaaaaaab⟩ := or_f ghk19naaaaaaaaa
          have ghk19naaaaaaaaaan := no_f ghk19naaaaaaaaaa
          have ghk19naaaaaaaaabn := no_f ghk19naaaaaaaaab
          obtain ⟨ghk19naaaaaaaaabna, ghk19naaaaaaaaabnb⟩ := and_t ghk19naaaaaaaaabn
          obtain ⟨ghk19naaaaaaaaabnba, ghk19naaaaaaaaabnbb⟩ := and_t ghk19naaaaaaaaabnb
          have ghk19naaaaaaaabn := no_f ghk19naaaaaaaab
          have ghk19naaaaaaabn := no_f ghk19naaaaaaab
          have ghk19naaaaaabn := no_f ghk19naaaaaab
          have ghk19naaaaabn := no_f ghk19naaaaab
          have ghk19naaaabn := no_f ghk19naaaab
          have ghk19naaabn := no_f ghk19naaab
          rcases and_f ghk19naab with ghk19naaba | ⟨ghk19naaba, ghk19naabb⟩
          · have ghk19nabn := no_f ghk19nab
            have ghk19nbn := no_t ghk19nb
            rcases and_f ghk19nbn with ghk19nbna | ⟨ghk19nbna, ghk19nbnb⟩
            · try simp only [go_sem, n1, n2, n3, n4, hk2, ghk18, hhk18] at ghk19naaaaaaaaaan
              all_goals
              try simp only [go_sem, n1, n2, n3, n4, hk2, ghk18, hhk18, ghk19naaaaaaaaaan] at ghk19naaaaaaaaabna
              all_goals
              try simp only [go_sem, n1, n2, n3, n4, hk2, ghk18, hhk18, ghk19naaaaaaaaaan, ghk19naaaaaaaaabna] at ghk19naaaaaaaaabnba
              all_goals
              try simp only [go_sem, n1, n2, n3, n4, hk2, ghk18, hhk18, ghk19naaaaaaaaaan, ghk19naaaaaaaaabna, ghk19naaaaaaaaabnba] at ghk19naaaaaaaaabnbb
              all_goals
              try simp only [go_sem, n1, n2, n3, n4, hk2, ghk18, hhk18, ghk19naaaaaaaaaan, ghk19naaaaaaaaabna, ghk19naaaaaaaaabnba, ghk19naaaaaaaaabnbb] at ghk19naaaaaaaabn
              all_goals
              try simp only [go_sem, n1, n2, n3, n4, hk2, ghk18, hhk18, ghk19naaaaaaaaaan, ghk19naaaaaaaaabna, ghk19naaaaaaaaabnba, ghk19naaaaaaaaabnbb, ghk19naaaaaaaabn] at ghk19naaaaaaabn
              all_goals
              try simp only [go_sem, n1, n2, n3, n4, hk2, ghk18, hhk18, ghk19naaaaaaaaaan, ghk19naaaaaaaaabna, ghk19naaaaaaaaabnba, ghk19naaaaaaaaabnbb, ghk19naaaaaaaabn, ghk19naaaaaaabn] at ghk19naaaaaabn
              all_goals
              try simp only [go_sem, n1, n2, n3, n4, hk2, ghk18, hhk18, ghk19naaaaaaaaaan, ghk19naaaaaaaaabna, ghk19naaaaaaaaabnba, ghk19naaaaaaaaabnbb, ghk19naaaaaaaabn, ghk19naaaaaaabn, ghk19naaaaaabn] at ghk19naaaaabn
              all_goals
              try simp only [go_sem, n1, n2, n3, n4, hk2, ghk18, hhk18, ghk19naaaaaaaaaan, ghk19naaaaaaaaabna, ghk19naaaaaaaaabnba, ghk19naaaaaaaaabnbb, ghk19naaaaaaaabn, ghk19naaaaaaabn, ghk19naaaaaabn, ghk19naaaaabn] at ghk19naaaabn
              all_goals
              try simp only [go_sem, n1, n2, n3, n4, hk2, ghk18, hhk18, ghk19naaaaaaaaaan, ghk19naaaaaaaaabna, ghk19naaaaaaaaabnba, ghk19naaaaaaaaabnbb, ghk19naaaaaaaabn, ghk19naaaaaaabn, ghk19naaaaaabn, ghk19naaaaabn, ghk19naaaabn] at ghk19naaabn
              all_goals
              try simp only [go_sem, n1, n2, n3, n4, hk2, ghk18, hhk18, ghk19naaaaaaaaaan, ghk19naaaaaaaaabna, ghk19naaaaaaaaabnba, ghk19naaaaaaaaabnbb, ghk19naaaaaaaabn, ghk19naaaaaaabn, ghk19naaaaaabn, ghk19naaaaabn, ghk19naaaabn, ghk19naaabn] at ghk19naaba
              all_goals
              try simp only [go_sem, n1, n2, n3, n4, hk2, ghk18, hhk18, ghk19naaaaaaaaaan, ghk19naaaaaaaaabna, ghk19naaaaaaaaabnba, ghk19naaaaaaaaabnbb, ghk19naaaaaaaabn, ghk19naaaaaaabn, ghk19naaaaaabn, ghk19naaaaabn, ghk19naaaabn, ghk19naaabn, ghk19naaba] at ghk19nabn
              all_goals
              try simp only [go_sem, n1, n2, n3, n4, hk2, ghk18, hhk18, ghk19naaaaaaaaaan, ghk19naaaaaaaaabna, ghk19naaaaaaaaabnba, ghk19naaaaaaaaabnbb, ghk19naaaaaaaabn, ghk19naaaaaaabn, ghk19naaaaaabn, ghk19naaaaabn, ghk19naaaabn, ghk19naaabn, ghk19naaba, ghk19nabn] at ghk19nbna
              all_goals
              obtain ⟨hk20, h⟩ := ck_some h
              rcases it_some h with ⟨hk21, h⟩ | ⟨hk21, h⟩
              · try simp only [go_sem, n1, n2, n3, n4, hk2, ghk18, hhk18, ghk19naaaaaaaaaan, ghk19naaaaaaaaabna, ghk19naaaaaaaaabnba, ghk19naaaaaaaaabnbb, ghk19naaaaaaaabn, ghk19naaaaaaabn, ghk19naaaaaabn, ghk19naaaaabn, ghk19naaaabn, ghk19naaabn, ghk19naaba, ghk19nabn, ghk19nbna] at hk21
                all_goals
                obtain rfl := so_some h
                refine ⟨0, fun L hL => ?_⟩
                simp only [go_sem, ir3, fhk1, hk2, fhk3, fhk4, fhk5, fhk6, fhk7, fhk8, fhk9, fhk10, fhk11, fhk12, fhk13, fhk14, fhk15, fhk16, fhk17, ghk18, hhk18, fhk18, ghk19naaaaaaaaaan, ghk19naaaaaaaaabna, ghk19naaaaaaaaabnba, ghk19naaaaaaaaabnbb, ghk19naaaaaaaabn, ghk19naaaaaaabn, ghk19naaaaaabn, ghk19naaaaabn, ghk19naaaabn, ghk19naaabn, ghk19naaba, ghk19nabn, ghk19nbna, hk21]
              · try simp only [go_sem, n1, n2, n3, n4, hk2, ghk18, hhk18, ghk19naaaaaaaaaan, ghk19naaaaaaaaabna, ghk19naaaaaaaaabnba, ghk19naaaaaaaaabnbb, ghk19naaaaaaaabn, ghk19naaaaaaabn, ghk19naaaaaabn, ghk19naaaaabn, ghk19naaaabn, ghk19naaabn, ghk19naaba, ghk19nabn, ghk19nbna] at hk21
                all_goals
                (simp_all)
            · rcases and_f ghk19nbnb with ghk19nbnba | ⟨ghk19nbnba, ghk19nbnbb⟩
              · try simp only [go_sem, n1, n2, n3, n4, hk2, ghk18, hhk18] at ghk19naaaaaaaaaan
                all_goals
                try simp only [go_sem, n1, n2, n3, n4, hk2, ghk18, hhk18, ghk19naaaaaaaaaan] at ghk19naaaaaaaaabna
                all_goals
                try simp only [go_sem, n1, n2, n3, n4, hk2, ghk18, hhk18, ghk19naaaaaaaaaan, ghk19naaaaaaaaabna] at ghk19naaaaaaaaabnba
                all_goals
                try simp only [go_sem, n1, n2, n3, n4, hk2, ghk18, hhk18, ghk19naaaaaaaaaan, ghk19naaaaaaaaabna, ghk19naaaaaaaaabnba] at ghk19naaaaaaaaabnbb
                all_goals
                try simp only [go_sem, n1, n2, n3, n4, hk2, ghk18, hhk18, ghk19naaaaaaaaaan, ghk19naaaaaaaaabna, ghk19naaaaaaaaabnba, ghk19naaaaaaaaabnbb] at ghk19naaaaaaaabn
                all_goals
                try simp only [go_sem, n1, n2, n3, n4, hk2, ghk18, hhk18, ghk19naaaaaaaaaan, ghk19naaaaaaaaabna, ghk19naaaaaaaaabnba, ghk19naaaaaaaaabnbb, ghk19naaaaaaaabn] at ghk19naaaaaaabn
                all_goals
                try simp only [go_sem, n1, n2, n3, n4, hk2, ghk18, hhk18, ghk19naaaaaaaaaan, ghk19naaaaaaaaabna, ghk19naaaaaaaaabnba, ghk19naaaaaaaaabnbb, ghk19naaaaaaaabn, ghk19naaaaaaabn] at ghk19naaaaaabn
                all_goals
                try simp only [go_sem, n1, n2, n3, n4, hk2, ghk18, hhk18, ghk19naaaaaaaaaan, ghk19naaaaaaaaabna, ghk19naaaaaaaaabnba, ghk19naaaaaaaaabnbb, ghk19naaaaaaaabn, ghk19naaaaaaabn, ghk19naaaaaabn] at ghk19naaaaabn
                all_goals
                try simp only [go_sem, n1, n2, n3, n4, hk2, ghk18, hhk18, ghk19naaaaaaaaaan, ghk19naaaaaaaaabna, ghk19naaaaaaaaabnba, ghk19naaaaaaaaabnbb, ghk19naaaaaaaabn, ghk19naaaaaaabn, ghk19naaaaaabn, ghk19naaaaabn] at ghk19naaaabn
                all_goals
                try simp only [go_sem, n1, n2, n3, n4, hk2, ghk18, hhk18, ghk19naaaaaaaaaan, ghk19naaaaaaaaabna, ghk19naaaaaaaaabnba, ghk19naaaaaaaaabnbb, ghk19naaaaaaaabn, ghk19naaaaaaabn, ghk19naaaaaabn, ghk19naaaaabn, ghk19naaaabn] at ghk19naaabn
                all_goals
                try simp only [go_sem, n1, n2, n3, n4, hk2, ghk18, hhk18, ghk19naaaaaaaaaan, ghk19naaaaaaaaabna, ghk19naaaaaaaaabnba, ghk19naaaaaaaaabnbb, ghk19naaaaaaaabn, ghk19naaaaaaabn, ghk19naaaaaabn, ghk19naaaaabn, ghk19naaaabn, ghk19naaabn] at ghk19naaba
                all_goals
                try simp only [go_sem, n1, n2, n3, n4, hk2, ghk18, hhk18, ghk19naaaaaaaaaan, ghk19naaaaaaaaabna, ghk19naaaaaaaaabnba, ghk19naaaaaaaaabnbb, ghk19naaaaaaaabn, ghk19naaaaaaabn, ghk19naaaaaabn, ghk19naaaaabn, ghk19naaaabn, ghk19naaabn, ghk19naaba] at ghk19nabn
                all_goals
                try simp only [go_sem, n1, n2, n3, n4, hk2, ghk18, hhk18, ghk19naaaaaaaaaan, ghk19naaaaaaaaabna, ghk19naaaaaaaaabnba, ghk19naaaaaaaaabnbb, ghk19naaaaaaaabn, ghk19naaaaaaabn, ghk19naaaaaabn, ghk19naaaaabn, ghk19naaaabn, ghk19naaabn, ghk19naaba, ghk19nabn] at ghk19nbna
                all_goals
                try simp only [go_sem, n1, n2, n3, n4, hk2, ghk18, hhk18, ghk19naaaaaaaaaan, ghk19naaaaaaaaabna, ghk19naaaaaaaaabnba, ghk19naaaaaaaaabnbb, ghk19naaaaaaaabn, ghk19naaaaaaabn, ghk19naaaaaabn, ghk19naaaaabn, ghk19naaaabn, ghk19naaabn, ghk19naaba, ghk19nabn, ghk19nbna] at ghk19nbnba
                all_goals
                obtain ⟨hk20, h⟩ := ck_some h
                rcases it_some h with ⟨hk21, h⟩ | ⟨hk21, h⟩
                · try simp only [go_sem, n1, n2, n3, n4, hk2, ghk18, hhk18, ghk19naaaaaaaaaan, ghk19naaaaaaaaabna, ghk19naaaaaaaaabnba, ghk19naaaaaaaaabnbb, ghk19naaaaaaaabn, ghk19naaaaaaabn, ghk19naaaaaabn, ghk19naaaaabn, ghk19naaaabn, ghk19naaabn, ghk19naaba, ghk19nabn, ghk19nbna, ghk19nbnba] at hk21
                  all_goals
                  obtain rfl := so_some h
                  refine ⟨0, fun L hL => ?_⟩
                  simp only [go_sem, ir3, fhk1, hk2, fhk3, fhk4, fhk5, fhk6, fhk7, fhk8, fhk9, fhk10, fhk11, fhk12, fhk13, fhk14, fhk15, fhk16, fhk17, ghk18, hhk18, fhk18, ghk19naaaaaaaaaan, ghk19naaaaaaaaabna, ghk19naaaaaaaaabnba, ghk19naaaaaaaaabnbb, ghk19naaaaaaaabn, ghk19naaaaaaabn, ghk19naaaaaabn, ghk19naaaaabn, ghk19naaaabn, ghk19naaabn, ghk19naaba, ghk19nabn, ghk19nbna, ghk19nbnba, hk21]
                · try simp only [go_sem, n1, n2, n3, n4, hk2, ghk18, hhk18, ghk19naaaaaaaaaan, ghk19naaaaaaaaabna, ghk19naaaaaaaaabnba, ghk19naaaaaaaaabnbb, ghk19naaaaaaaabn, ghk19naaaaaaabn, ghk19naaaaaabn, ghk19naaaaabn, ghk19naaaabn, ghk19naaabn, ghk19naaba, ghk19nabn, ghk19nbna, ghk19nbnba] at hk21
                  all_goals
                  (simp_all)
              · try simp only [go_sem, n1, n2, n3, n4, hk2, ghk18, hhk18] at ghk19naaaaaaaaaan
                all_goals
                try simp only [go_sem, n1, n2, n3, n4, hk2, ghk18, hhk18, ghk19naaaaaaaaaan] at ghk19naaaaaaaaabna
                all_goals
                try simp only [go_sem, n1, n2, n3, n4, hk2, ghk18, hhk18, ghk19naaaaaaaaaan, ghk19naaaaaaaaabna] at ghk19naaaaaaaaabnba
                all_goals
                try simp only [go_sem, n1, n2, n3, n4, hk2, ghk18, hhk18, ghk19naaaaaaaaaan, ghk19naaaaaaaaabna, ghk19naaaaaaaaabnba] at ghk19naaaaaaaaabnbb
                all_goals
                try simp only [go_sem, n1, n2, n3, n4, hk2, ghk18, hhk18, ghk19naaaaaaaaaan, ghk19naaaaaaaaabna, ghk19naaaaaaaaabnba, ghk19naaaaaaaaabnbb] at ghk19naaaaaaaabn
                all_goals
                try simp only [go_sem, n1, n2, n3, n4, hk2, ghk18, hhk18, ghk19naaaaaaaaaan, ghk19naaaaaaaaabna, ghk19naaaaaaaaabnba, ghk19naaaaaaaaabnbb, ghk19naaaaaaaabn] at ghk19naaaaaaabn
                all_goals
                try simp only [go_sem, n1, n2, n3, n4, hk2, ghk18, hhk18, ghk19naaaaaaaaaan, ghk19naaaaaaaaabna, ghk19naaaaaaaaabnba, ghk19naaaaaaaaabnbb, ghk19naaaaaaaabn, ghk19naaaaaaabn] at ghk19naaaaaabn
                all_goals
                try simp only [go_sem, n1, n2, n3, n4, hk2, ghk18, hhk18, ghk19naaaaaaaaaan, ghk19naaaaaaaaabna, ghk19naaaaaaaaabnba, ghk19naaaaaaaaabnbb, ghk19naaaaaaaabn, ghk19naaaaaaabn, ghk19naaaaaabn] at ghk19naaaaabn
                all_goals
                try simp only [go_sem, n1, n2, n3, n4, hk2, ghk18, hhk18, ghk19naaaaaaaaaan, ghk19naaaaaaaaabna, ghk19naaaaaaaaabnba, ghk19naaaaaaaaabnbb, ghk19naaaaaaaabn, ghk19naaaaaaabn, ghk19naaaaaabn, ghk19naaaaabn] at ghk19naaaabn
                all_goals
                try simp only [go_sem, n1, n2, n3, n4, hk2, ghk18, hhk18, ghk19naaaaaaaaaan, ghk19naaaaaaaaabna, ghk19naaaaaaaaabnba, ghk19naaaaaaaaabnbb, ghk19naaaaaaaabn, ghk19naaaaaaabn, ghk19naaaaaabn, ghk19naaaaabn, ghk19naaaabn] at ghk19naaabn
                all_goals
                try simp only [go_sem, n1, n2, n3, n4, hk2, ghk18, hhk18, ghk19naaaaaaaaaan, ghk19naaaaaaaaabna, ghk19naaaaaaaaabnba, ghk19naaaaaaaaabnbb, ghk19naaaaaaaabn, ghk19naaaaaaabn, ghk19naaaaaabn, ghk19naaaaabn, ghk19naaaabn, ghk19naaabn] at ghk19naaba
                all_goals
                try simp only [go_sem, n1, n2, n3, n4, hk2, ghk18, hhk18, ghk19naaaaaaaaaan, ghk19naaaaaaaaabna, ghk19naaaaaaaaabnba, ghk19naaaaaaaaabnbb, ghk19naaaaaaaabn, ghk19naaaaaaabn, ghk19naaaaaabn, ghk19naaaaabn, ghk19naaaabn, ghk19naaabn, ghk19naaba] at ghk19nabn
                all_goals
                try simp only [go_sem, n1, n2, n3, n4, hk2, ghk18, hhk18, ghk19naaaaaaaaaan, ghk19naaaaaaaaabna, ghk19naaaaaaaaabnba, ghk19naaaaaaaaabnbb, ghk19naaaaaaaabn, ghk19naaaaaaabn, ghk19naaaaaabn, ghk19naaaaabn, ghk19naaaabn, ghk19naaabn, ghk19naaba, ghk19nabn] at ghk19nbna
                all_goals
                try simp only [go_sem, n1, n2, n3, n4, hk2, ghk18, hhk18, ghk19naaaaaaaaaan, ghk19naaaaaaaaabna, ghk19naaaaaaaaabnba, ghk19naaaaaaaaabnbb, ghk19naaaaaaaabn, ghk19naaaaaaabn, ghk19naaaaaabn, ghk19naaaaabn, ghk19naaaabn, ghk19naaabn, ghk19naaba, ghk19nabn, ghk19nbna] at ghk19nbnba
                all_goals
                try simp only [go_sem, n1, n2, n3, n4, hk2, ghk18, hhk18, ghk19naaaaaaaaaan, ghk19naaaaaaaaabna, ghk19naaaaaaaaabnba, ghk19naaaaaaaaabnbb, ghk19naaaaaaaabn, ghk19naaaaaaabn, ghk19naaaaaabn, ghk19naaaaabn, ghk19naaaabn, ghk19naaabn, ghk19naaba, ghk19nabn, ghk19nbna, ghk19nbnba] at ghk19nbnbb
                all_goals
                obtain ⟨hk20, h⟩ := ck_some h
                rcases it_some h with ⟨hk21, h⟩ | ⟨hk21, h⟩
                · try simp only [go_sem, n1, n2, n3, n4, hk2, ghk18, hhk18, ghk19naaaaaaaaaan, ghk19naaaaaaaaabna, ghk19naaaaaaaaabnba, ghk19naaaaaaaaabnbb, ghk19naaaaaaaabn, ghk19naaaaaaabn, ghk19naaaaaabn, ghk19naaaaabn, ghk19naaaabn, ghk19naaabn, ghk19naaba, ghk19nabn, ghk19nbna, ghk19nbnba, ghk19nbnbb] at hk21
                  all_goals
                  obtain rfl := so_some h
                  refine ⟨0, fun L hL => ?_⟩
                  simp only [go_sem, ir3, fhk1, hk2, fhk3, fhk4, fhk5, fhk6, fhk7, fhk8, fhk9, fhk10, fhk11, fhk12, fhk13, fhk14, fhk15, fhk16, fhk17, ghk18, hhk18, fhk18, ghk19naaaaaaaaaan, ghk19naaaaaaaaabna, ghk19naaaaaaaaabnba, ghk19naaaaaaaaabnbb, ghk19naaaaaaaabn, ghk19naaaaaaabn, ghk19naaaaaabn, ghk19naaaaabn, ghk19naaaabn, ghk19naaabn, ghk19naaba, ghk19nabn, ghk19nbna, ghk19nbnba, ghk19nbnbb, hk21]
                · try simp only [go_sem, n1, n2, n3, n4, hk2, ghk18, hhk18, ghk19naaaaaaaaaan, ghk19naaaaaaaaabna, ghk19naaaaaaaaabnba, ghk19naaaaaaaaabnbb, ghk19naaaaaaaabn, ghk19naaaaaaabn, ghk19naaaaaabn, ghk19naaaaabn, ghk19naaaabn, ghk19naaabn, ghk19naaba, ghk19nabn, ghk19nbna, ghk19nbnba, ghk19nbnbb] at hk21
                  all_goals
                  (simp_all)
          · have ghk19naabbn := no_f ghk19naabb
            obtain ⟨ghk19naabbna, ghk19naabbnb⟩ := and_t ghk19naabbn
            obtain ⟨ghk19naabbnba, ghk19naabbnbb⟩ := and_t ghk19naabbnb
            have ghk19nabn := no_f ghk19nab
            have ghk19nbn := no_t ghk19nb
            rcases and_f ghk19nbn with ghk19nbna | ⟨ghk19nbna, ghk19nbnb⟩
            · try simp only [go_sem, n1, n2, n3, n4, hk2, ghk18, hhk18] at ghk19naaaaaaaaaan
              all_goals
              try simp only [go_sem, n1, n2, n3, n4, hk2, ghk18, hhk18, ghk19naaaaaaaaaan] at ghk19naaaaaaaaabna
              all_goals
              try simp only [go_sem, n1, n2, n3, n4, hk2, ghk18, hhk18, ghk19naaaaaaaaaan, ghk19naaaaaaaaabna] at ghk19naaaaaaaaabnba
              all_goals
              try simp only [go_sem, n1, n2, n3, n4, hk2, ghk18, hhk18, ghk19naaaaaaaaaan, ghk19naaaaaaaaabna, ghk19naaaaaaaaabnba] at ghk19naaaaaaaaabnbb
              all_goals
              try simp only [go_sem, n1, n2, n3, n4, hk2, ghk18, hhk18, ghk19naaaaaaaaaan, ghk19naaaaaaaaabna, ghk19naaaaaaaaabnba, ghk19naaaaaaaaabnbb] at ghk19naaaaaaaabn
              all_goals
              try simp only [go_sem, n1, n2, n3, n4, hk2, ghk18, hhk18, ghk19naaaaaaaaaan, ghk19naaaaaaaaabna, ghk19naaaaaaaaabnba, ghk19naaaaaaaaabnbb, ghk19naaaaaaaabn] at ghk19naaaaaaabn
              all_goals
              try simp only [go_sem, n1, n2, n3, n4, hk2, ghk18, hhk18, ghk19naaaaaaaaaan, ghk19naaaaaaaaabna, ghk19naaaaaaaaabnba, ghk19naaaaaaaaabnbb, ghk19naaaaaaaabn, ghk19naaaaaaabn] at ghk19naaaaaabn
              all_goals
              try simp only [go_sem, n1, n2, n3, n4, hk2, ghk18, hhk18, ghk19naaaaaaaaaan, ghk19naaaaaaaaabna, ghk19naaaaaaaaabnba, ghk19naaaaaaaaabnbb, ghk19naaaaaaaabn, ghk19naaaaaaabn, ghk19naaaaaabn] at ghk19naaaaabn
              all_goals
              try simp only [go_sem, n1, n2, n3, n4, hk2, ghk18, hhk18, ghk19naaaaaaaaaan, ghk19naaaaaaaaabna, ghk19naaaaaaaaabnba, ghk19naaaaaaaaabnbb, ghk19naaaaaaaabn, ghk19naaaaaaabn, ghk19naaaaaabn, ghk19naaaaabn] at ghk19naaaabn
              all_goals
              try simp only [go_sem, n1, n2, n3, n4, hk2, ghk18, hhk18, ghk19naaaaaaaaaan, ghk19naaaaaaaaabna, ghk19naaaaaaaaabnba, ghk19naaaaaaaaabnbb, ghk19naaaaaaaabn, ghk19naaaaaaabn, ghk19naaaaaabn, ghk19naaaaabn, ghk19naaaabn] at ghk19naaabn
              all_goals
              try simp only [go_sem, n1, n2, n3, n4, hk2, ghk18, hhk18, ghk19naaaaaaaaaan, ghk19naaaaaaaaabna, ghk19naaaaaaaaabnba, ghk19naaaaaaaaabnbb, ghk19naaaaaaaabn, ghk19naaaaaaabn, ghk19naaaaaabn, ghk19naaaaabn, ghk19naaaabn, ghk19naaabn] at ghk19naaba
              all_goals
              try simp only [go_sem, n1, n2, n3, n4, hk2, ghk18, hhk18, ghk19naaaaaaaaaan, ghk19naaaaaaaaabna, ghk19naaaaaaaaabnba, ghk19naaaaaaaaabnbb, ghk19naaaaaaaabn, ghk19naaaaaaabn, ghk19naaaaaabn, ghk19naaaaabn, ghk19naaaabn, ghk19naaabn, ghk19naaba] at ghk19naabbna
              all_goals
              try simp only [go_sem, n1, n2, n3, n4, hk2, ghk18, hhk18, ghk19naaaaaaaaaan, ghk19naaaaaaaaabna, ghk19naaaaaaaaabnba, ghk19naaaaaaaaabnbb, ghk19naaaaaaaabn, ghk19naaaaaaabn, ghk19naaaaaabn, ghk19naaaaabn, ghk19naaaabn, ghk19naaabn, ghk19naaba, ghk19naabbna] at ghk19naabbnba
              all_goals
              try simp only [go_sem, n1, n2, n3, n4, hk2, ghk18, hhk18, ghk19naaaaaaaaaan, ghk19naaaaaaaaabna, ghk19naaaaaaaaabnba, ghk19naaaaaaaaabnbb, ghk19naaaaaaaabn, ghk19naaaaaaabn, ghk19naaaaaabn, ghk19naaaaabn, ghk19naaaabn, ghk19naaabn, ghk19naaba, ghk19naabbna, ghk19naabbnba] at ghk19naabbnbb
              all_goals
              try simp only [go_sem, n1, n2, n3, n4, hk2, ghk18, hhk18, ghk19naaaaaaaaaan, ghk19naaaaaaaaabna, ghk19naaaaaaaaabnba, ghk19naaaaaaaaabnbb, ghk19naaaaaaaabn, ghk19naaaaaaabn, ghk19naaaaaabn, ghk19naaaaabn, ghk19naaaabn, ghk19naaabn, ghk19naaba, ghk19naabbna, ghk19naabbnba, ghk19naabbnbb] at ghk19nabn
              all_goals
              try simp only [go_sem, n1, n2, n3, n4, hk2, ghk18, hhk18, ghk19naaaaaaaaaan, ghk19naaaaaaaaabna, ghk19naaaaaaaaabnba, ghk19naaaaaaaaabnbb, ghk19naaaaaaaabn, ghk19naaaaaaabn, ghk19naaaaaabn, ghk19naaaaabn, ghk19naaaabn, ghk19naaabn, ghk19naaba, ghk19naabbna, ghk19naabbnba, ghk19naabbnbb, ghk19nabn] at ghk19nbna
              all_goals
              obtain ⟨hk20, h⟩ := ck_some h
              rcases it_some h with ⟨hk21, h⟩ | ⟨hk21, h⟩
              · try simp only [go_sem, n1, n2, n3, n4, hk2, ghk18, hhk18, ghk19naaaaaaaaaan, ghk19naaaaaaaaabna, ghk19naaaaaaaaabnba, ghk19naaaaaaaaabnbb, ghk19naaaaaaaabn, ghk19naaaaaaabn, ghk19naaaaaabn, ghk19naaaaabn, ghk19naaaabn, ghk19naaabn, ghk19naaba, ghk19naabbna, ghk19naabbnba, ghk19naabbnbb, ghk19nabn, ghk19nbna] at hk21
                all_goals
                obtain rfl := so_some h
                refine ⟨0, fun L hL => ?_⟩
                simp only [go_sem, ir3, fhk1, hk2, fhk3, fhk4, fhk5, fhk6, fhk7, fhk8, fhk9, fhk10, fhk11, fhk12, fhk13, fhk14, fhk15, fhk16, fhk17, ghk18, hhk18, fhk18, ghk19naaaaaaaaaan, ghk19naaaaaaaaabna, ghk19naaaaaaaaabnba, ghk19naaaaaaaaabnbb, ghk19naaaaaaaabn, ghk19naaaaaaabn, ghk19naaaaaabn, ghk19naaaaabn, ghk19naaaabn, ghk19naaabn, ghk19naaba, ghk19naabbna, ghk19naabbnba, ghk19naabbnbb, ghk19nabn, ghk19nbna, hk21]
              · try simp only [go_sem, n1, n2, n3, n4, hk2, ghk18, hhk18, ghk19naaaaaaaaaan, ghk19naaaaaaaaabna, ghk19naaaaaaaaabnba, ghk19naaaaaaaaabnbb, ghk19naaaaaaaabn, ghk19naaaaaaabn, ghk19naaaaaabn, ghk19naaaaabn, ghk19naaaabn, ghk19naaabn, ghk19naaba, ghk19naabbna, ghk19naabbnba, ghk19naabbnbb, ghk19nabn, ghk19nbna] at hk21
                all_goals
                (simp_all)
            · rcases and_f ghk19nbnb with ghk19nbnba | ⟨ghk19nbnba, ghk19nbnbb⟩
              · try simp only [go_sem, n1, n2, n3, n4, hk2, ghk18, hhk18] at ghk19naaaaaaaaaan
                all_goals
                try simp only [go_sem, n1, n2, n3, n4, hk2, ghk18, hhk18, ghk19naaaaaaaaaan] at ghk19naaaaaaaaabna
                all_goals
                try simp only [go_sem, n1, n2, n3, n4, hk2, ghk18, hhk18, ghk19naaaaaaaaaan, ghk19naaaaaaaaabna] at ghk19naaaaaaaaabnba
                all_goals
                try simp only [go_sem, n1, n2, n3, n4, hk2, ghk18, hhk18, ghk19naaaaaaaaaan, ghk19naaaaaaaaabna, ghk19naaaaaaaaabnba] at ghk19naaaaaaaaabnbb
                all_goals
                try simp only [go_sem, n1, n2, n3, n4, hk2, ghk18, hhk18, ghk19naaaaaaaaaan, ghk19naaaaaaaaabna, ghk19naaaaaaaaabnba, ghk19naaaaaaaaabnbb] at ghk19naaaaaaaabn
                all_goals
                try simp only [go_sem, n1, n2, n3, n4, hk2, ghk18, hhk18, ghk19naaaaaaaaaan, ghk19naaaaaaaaabna, ghk19naaaaaaaaabnba, ghk19naaaaaaaaabnbb, ghk19naaaaaaaabn] at ghk19naaaaaaabn
                all_goals
                try simp only [go_sem, n1, n2, n3, n4, hk2, ghk18, hhk18, ghk19naaaaaaaaaan, ghk19naaaaaaaaabna, ghk19naaaaaaaaabnba, ghk19naaaaaaaaabnbb, ghk19naaaaaaaabn, ghk19naaaaaaabn] at ghk19naaaaaabn
                all_goals
                try simp only [go_sem, n1, n2, n3, n4, hk2, ghk18, hhk18, ghk19naaaaaaaaaan, ghk19naaaaaaaaabna, ghk19naaaaaaaaabnba, ghk19naaaaaaaaabnbb, ghk19naaaaaaaabn, ghk19naaaaaaabn, ghk19naaaaaabn] at ghk19naaaaabn
                all_goals
                try simp only [go_sem, n1, n2, n3, n4, hk2, ghk18, hhk18, ghk19naaaaaaaaaan, ghk19naaaaaaaaabna, ghk19naaaaaaaaabnba, ghk19naaaaaaaaabnbb, ghk19naaaaaaaabn, ghk19naaaaaaabn, ghk19naaaaaabn, ghk19naaaaabn] at ghk19naaaabn
                all_goals
                try simp only [go_sem, n1, n2, n3, n4, hk2, ghk18, hhk18, ghk19naaaaaaaaaan, ghk19naaaaaaaaabna, ghk19naaaaaaaaabnba, ghk19naaaaaaaaabnbb, ghk19naaaaaaaabn, ghk19naaaaaaabn, ghk19naaaaaabn, ghk19naaaaabn, ghk19naaaabn] at ghk19naaabn
                all_goals
                try simp only [go_sem, n1, n2, n3, n4, hk2, ghk18, hhk18, ghk19naaaaaaaaaan, ghk19naaaaaaaaabna, ghk19naaaaaaaaabnba, ghk19naaaaaaaaabnbb, ghk19naaaaaaaabn, ghk19naaaaaaabn, ghk19naaaaaabn, ghk19naaaaabn, ghk19naaaabn, ghk19naaabn] at ghk19naaba
                all_goals
                try simp only [go_sem, n1, n2, n3, n4, hk2, ghk18, hhk18, ghk19naaaaaaaaaan, ghk19naaaaaaaaabna, ghk19naaaaaaaaabnba, ghk19naaaaaaaaabnbb, ghk19naaaaaaaabn, ghk19naaaaaaabn, ghk19naaaaaabn, ghk19naaaaabn, ghk19naaaabn, ghk19naaabn, ghk19naaba] at ghk19naabbna
                all_goals
                try simp only [go_sem, n1, n2, n3, n4, hk2, ghk18, hhk18, ghk19naaaaaaaaaan, ghk19naaaaaaaaabna, ghk19naaaaaaaaabnba, ghk19naaaaaaaaabnbb, ghk19naaaaaaaabn, ghk19naaaaaaabn, ghk19naaaaaabn, ghk19naaaaabn, ghk19naaaabn, ghk19naaabn, ghk19naaba, ghk19naabbna] at ghk19naabbnba
                all_goals
                try simp only [go_sem, n1, n2, n3, n4, hk2, ghk18, hhk18, ghk19naaaaaaaaaan, ghk19naaaaaaaaabna, ghk19naaaaaaaaabnba, ghk19naaaaaaaaabnbb, ghk19naaaaaaaabn, ghk19naaaaaaabn, ghk19naaaaaabn, ghk19naaaaabn, ghk19naaaabn, ghk19naaabn, ghk19naaba, ghk19naabbna, ghk19naabbnba] at ghk19naabbnbb
                all_goals
                try simp only [go_sem, n1, n2, n3, n4, hk2, ghk18, hhk18, ghk19naaaaaaaaaan, ghk19naaaaaaaaabna, ghk19naaaaaaaaabnba, ghk19naaaaaaaaabnbb, ghk19naaaaaaaabn, ghk19naaaaaaabn, ghk19naaaaaabn, ghk19naaaaabn, ghk19naaaabn, ghk19naaabn, ghk19naaba, ghk19naabbna, ghk19naabbnba, ghk19naabbnbb] at ghk19nabn
                all_goals
                try simp only [go_sem, n1, n2, n3, n4, hk2, ghk18, hhk18, ghk19naaaaaaaaaan, ghk19naaaaaaaaabna, ghk19naaaaaaaaabnba, ghk19naaaaaaaaabnbb, ghk19naaaaaaaabn, ghk19naaaaaaabn, ghk19naaaaaabn, ghk19naaaaabn, ghk19naaaabn, ghk19naaabn, ghk19naaba, ghk19naabbna, ghk19naabbnba, ghk19naabbnbb, ghk19nabn] at ghk19nbna
                all_goals
                try simp only [go_sem, n1, n2, n3, n4, hk2, ghk18, hhk18, ghk19naaaaaaaaaan, ghk19naaaaaaaaabna, ghk19naaaaaaaaabnba, ghk19naaaaaaaaabnbb, ghk19naaaaaaaabn, ghk19naaaaaaabn, ghk19naaaaaabn, ghk19naaaaabn, ghk19naaaabn, ghk19naaabn, ghk19naaba, ghk19naabbna, ghk19naabbnba, ghk19naabbnbb, ghk19nabn, ghk19nbna] at ghk19nbnba
                all_goals
                obtain ⟨hk20, h⟩ := ck_some h
                rcases it_some h with ⟨hk21, h⟩ | ⟨hk21, h⟩
                · try simp only [go_sem, n1, n2, n3, n4, hk2, ghk18, hhk18, ghk19naaaaaaaaaan, ghk19naaaaaaaaabna, ghk19naaaaaaaaabnba, ghk19naaaaaaaaabnbb, ghk19naaaaaaaabn, ghk19naaaaaaabn, ghk19naaaaaabn, ghk19naaaaabn, ghk19naaaabn, ghk19naaabn, ghk19naaba, ghk19naabbna, ghk19naabbnba, ghk19naabbnbb, ghk19nabn, ghk19nbna, ghk19nbnba] at hk21
                  all_goals
                  obtain rfl := so_some h
                  refine ⟨0, fun L hL => ?_⟩
                  simp only [go_sem, ir3, fhk1, hk2, fhk3, fhk4, fhk5, fhk6, fhk7, fhk8, fhk9, fhk10, fhk11, fhk12, fhk13, fhk14, fhk15, fhk16, fhk17, ghk18, hhk18, fhk18, ghk19naaaaaaaaaan, ghk19naaaaaaaaabna, ghk19naaaaaaaaabnba, ghk19naaaaaaaaabnbb, ghk19naaaaaaaabn, ghk19naaaaaaabn, ghk19naaaaaabn, ghk19naaaaabn, ghk19naaaabn, ghk19naaabn, ghk19naaba, ghk19naabbna, ghk19naabbnba, ghk19naabbnbb, ghk19nabn, ghk19nbna, ghk19nbnba, hk21]
                · try simp only [go_sem, n1, n2, n3, n4, hk2, ghk18, hhk18, ghk19naaaaaaaaaan, ghk19naaaaaaaaabna, ghk19naaaaaaaaabnba, ghk19naaaaaaaaabnbb, ghk19naaaaaaaabn, ghk19naaaaaaabn, ghk19naaaaaabn, ghk19naaaaabn, ghk19naaaabn, ghk19naaabn, ghk19naaba, ghk19naabbna, ghk19naabbnba, ghk19naabbnbb, ghk19nabn, ghk19nbna, ghk19nbnba] at hk21
                  all_goals
                  (simp_all)
              · try simp only [go_sem, n1, n2, n3, n4, hk2, ghk18, hhk18] at ghk19naaaaaaaaaan
                all_goals
                try simp only [go_sem, n1, n2, n3, n4, hk2, ghk18, hhk18, ghk19naaaaaaaaaan] at ghk19naaaaaaaaabna
                all_goals
                try simp only [go_sem, n1, n2, n3, n4, hk2, ghk18, hhk18, ghk19naaaaaaaaaan, ghk19naaaaaaaaabna] at ghk19naaaaaaaaabnba
                all_goals
                try simp only [go_sem, n1, n2, n3, n4, hk2, ghk18, hhk18, ghk19naaaaaaaaaan, ghk19naaaaaaaaabna, ghk19naaaaaaaaabnba] at ghk19naaaaaaaaabnbb
                all_goals
                try simp only [go_sem, n1, n2, n3, n4, hk2, ghk18, hhk18, ghk19naaaaaaaaaan, ghk19naaaaaaaaabna, ghk19naaaaaaaaabnba, ghk19naaaaaaaaabnbb] at ghk19naaaaaaaabn
                all_goals
                try simp only [go_sem, n1, n2, n3, n4, hk2, ghk18, hhk18, ghk19naaaaaaaaaan, ghk19naaaaaaaaabna, ghk19naaaaaaaaabnba, ghk19naaaaaaaaabnbb, ghk19naaaaaaaabn] at ghk19naaaaaaabn
                all_goals
                try simp only [go_sem, n1, n2, n3, n4, hk2, ghk18, hhk18, ghk19naaaaaaaaaan, ghk19naaaaaaaaabna, ghk19naaaaaaaaabnba, ghk19naaaaaaaaabnbb, ghk19naaaaaaaabn, ghk19naaaaaaabn] at ghk19naaaaaabn
                all_goals
                try simp only [go_sem, n1, n2, n3, n4, hk2, ghk18, hhk18, ghk19naaaaaaaaaan, ghk19naaaaaaaaabna, ghk19naaaaaaaaabnba, ghk19naaaaaaaaabnbb, ghk19naaaaaaaabn, ghk19naaaaaaabn, ghk19naaaaaabn] at ghk19naaaaabn
                all_goals
                try simp only [go_sem, n1, n2, n3, n4, hk2, ghk18, hhk18, ghk19naaaaaaaaaan, ghk19naaaaaaaaabna, ghk19naaaaaaaaabnba, ghk19naaaaaaaaabnbb, ghk19naaaaaaaabn, ghk19naaaaaaabn, ghk19naaaaaabn, ghk19naaaaabn] at ghk19naaaabn
                all_goals
                try simp only [go_sem, n1, n2, n3, n4, hk2, ghk18, hhk18, ghk19naaaaaaaaaan, ghk19naaaaaaaaabna, ghk19naaaaaaaaabnba, ghk19naaaaaaaaabnbb, ghk19naaaaaaaabn, ghk19naaaaaaabn, ghk19naaaaaabn, ghk19naaaaabn, ghk19naaaabn] at ghk19naaabn
                all_goals
                try simp only [go_sem, n1, n2, n3, n4, hk2, ghk18, hhk18, ghk19naaaaaaaaaan, ghk19naaaaaaaaabna, ghk19naaaaaaaaabnba, ghk19naaaaaaaaabnbb, ghk19naaaaaaaabn, ghk19naaaaaaabn, ghk19naaaaaabn, ghk19naaaaabn, ghk19naaaabn, ghk19naaabn] at ghk19naaba
                all_goals
                try simp only [go_sem, n1, n2, n3, n4, hk2, ghk18, hhk18, ghk19naaaaaaaaaan, ghk19naaaaaaaaabna, ghk19naaaaaaaaabnba, ghk19naaaaaaaaabnbb, ghk19naaaaaaaabn, ghk19naaaaaaabn, ghk19naaaaaabn, ghk19naaaaabn, ghk19naaaabn, ghk19naaabn, ghk19naaba] at ghk19naabbna
                all_goals
                try simp only [go_sem, n1, n2, n3, n4, hk2, ghk18, hhk18, ghk19naaaaaaaaaan, ghk19naaaaaaaaabna, ghk19naaaaaaaaabnba, ghk19naaaaaaaaabnbb, ghk19naaaaaaaabn, ghk19naaaaaaabn, ghk19naaaaaabn, ghk19naaaaabn, ghk19naaaabn, ghk19naaabn, ghk19naaba, ghk19naabbna] at ghk19naabbnba
                all_goals
                try simp only [go_sem, n1, n2, n3, n4, hk2, ghk18, hhk18, ghk19naaaaaaaaaan, ghk19naaaaaaaaabna, ghk19naaaaaaaaabnba, ghk19naaaaaaaaabnbb, ghk19naaaaaaaabn, ghk19naaaaaaabn, ghk19naaaaaabn, ghk19naaaaabn, ghk19naaaabn, ghk19naaabn, ghk19naaba, ghk19naabbna, ghk19naabbnba] at ghk19naabbnbb
                all_goals
                try simp only [go_sem, n1, n2, n3, n4, hk2, ghk18, hhk18, ghk19naaaaaaaaaan, ghk19naaaaaaaaabna, ghk19naaaaaaaaabnba, ghk19naaaaaaaaabnbb, ghk19naaaaaaaabn, ghk19naaaaaaabn, ghk19naaaaaabn, ghk19naaaaabn, ghk19naaaabn, ghk19naaabn, ghk19naaba, ghk19naabbna, ghk19naabbnba, ghk19naabbnbb] at ghk19nabn
                all_goals
                try simp only [go_sem, n1, n2, n3, n4, hk2, ghk18, hhk18, ghk19naaaaaaaaaan, ghk19naaaaaaaaabna, ghk19naaaaaaaaabnba, ghk19naaaaaaaaabnbb, ghk19naaaaaaaabn, ghk19naaaaaaabn, ghk19naaaaaabn, ghk19naaaaabn, ghk19naaaabn, ghk19naaabn, ghk19naaba, ghk19naabbna, ghk19naabbnba, ghk19naabbnbb, ghk19nabn] at ghk19nbna
                all_goals
                try simp only [go_sem, n1, n2, n3, n4, hk2, ghk18, hhk18, ghk19naaaaaaaaaan, ghk19naaaaaaaaabna, ghk19naaaaaaaaabnba, ghk19naaaaaaaaabnbb, ghk19naaaaaaaabn, ghk19naaaaaaabn, ghk19naaaaaabn, ghk19naaaaabn, ghk19naaaabn, ghk19naaabn, ghk19naaba, ghk19naabbna, ghk19naabbnba, ghk19naabbnbb, ghk19nabn, ghk19nbna] at ghk19nbnba
                all_goals
                try simp only [go_sem, n1, n2, n3, n4, hk2, ghk18, hhk18, ghk19naaaaaaaaaan, ghk19naaaaaaaaabna, ghk19naaaaaaaaabnba, ghk19naaaaaaaaabnbb, ghk19naaaaaaaabn, ghk19naaaaaaabn, ghk19naaaaaabn, ghk19naaaaabn, ghk19naaaabn, ghk19naaabn, ghk19naaba, ghk19naabbna, ghk19naabbnba, ghk19naabbnbb, ghk19nabn, ghk19nbna, ghk19nbnba] at ghk19nbnbb
                all_goals
                obtain ⟨hk20, h⟩ := ck_some h
                rcases it_some h with ⟨hk21, h⟩ | ⟨hk21, h⟩
                · try simp only [go_sem, n1, n2, n3, n4, hk2, ghk18, hhk18, ghk19naaaaaaaaaan, ghk19naaaaaaaaabna, ghk19naaaaaaaaabnba, ghk19naaaaaaaaabnbb, ghk19naaaaaaaabn, ghk19naaaaaaabn, ghk19naaaaaabn, ghk19naaaaabn, ghk19naaaabn, ghk19naaabn, ghk19naaba, ghk19naabbna, ghk19naabbnba, ghk19naabbnbb, ghk19nabn, ghk19nbna, ghk19nbnba, ghk19nbnbb] at hk21
                  all_goals
                  obtain rfl := so_some h
                  refine ⟨0, fun L hL => ?_⟩
                  simp only [go_sem, ir3, fhk1, hk2, fhk3, fhk4, fhk5, fhk6, fhk7, fhk8, fhk9, fhk10, fhk11, fhk12, fhk13, fhk14, fhk15, fhk16, fhk17, ghk18, hhk18, fhk18, ghk19naaaaaaaaaan, ghk19naaaaaaaaabna, ghk19naaaaaaaaabnba, ghk19naaaaaaaaabnbb, ghk19naaaaaaaabn, ghk19naaaaaaabn, ghk19naaaaaabn, ghk19naaaaabn, ghk19naaaabn, ghk19naaabn, ghk19naaba, ghk19naabbna, ghk19naabbnba, ghk19naabbnbb, ghk19nabn, ghk19nbna, ghk19nbnba, ghk19nbnbb, hk21]
                · try simp only [go_sem, n1, n2, n3, n4, hk2, ghk18, hhk18, ghk19naaaaaaaaaan, ghk19naaaaaaaaabna, ghk19naaaaaaaaabnba, ghk19naaaaaaaaabnbb, ghk19naaaaaaaabn, ghk19naaaaaaabn, ghk19naaaaaabn, ghk19naaaaabn, ghk19naaaabn, ghk19naaabn, ghk19naaba, ghk19naabbna, ghk19naabbnba, ghk19naabbnbb, ghk19nabn, ghk19nbna, ghk19nbnba, ghk19nbnbb] at hk21
                  all_goals
                  (simp_all)
    · have ghk18n := no_f ghk18
      rcases or_t ghk18n with ghk18na | ⟨ghk18na, ghk18nb⟩
      · rcases or_t ghk18na with ghk18naa | ⟨ghk18naa, ghk18nab⟩
        · rcases or_t ghk18naa with ghk18naaa | ⟨ghk18naaa, ghk18naab⟩
          · rcases or_t ghk18naaa with ghk18naaaa | ⟨ghk18naaaa, ghk18naaab⟩
            · rcases or_t ghk18naaaa with ghk18naaaaa | ⟨ghk18naaaaa, ghk18naaaab⟩
              · have ghk18naaaaan := no_t ghk18naaaaa
                try simp only [go_sem, n1, n2, n3, n4, hk2] at ghk18naaaaan
                all_goals
                obtain ⟨hk19, h⟩ := ck_some h
                obtain ⟨hk20, h⟩ := ck_some h
                rcases it_some h with ⟨hk21, h⟩ | ⟨hk21, h⟩
                · try simp only [go_sem, n1, n2, n3, n4, hk2, ghk18naaaaan] at hk21
                  all_goals
                  obtain rfl := so_some h
                  refine ⟨0, fun L hL => ?_⟩
                  simp only [go_sem, ir3, fhk1, hk2, fhk3, fhk4, fhk5, fhk6, fhk7, fhk8, fhk9, fhk10, fhk11, fhk12, fhk13, fhk14, fhk15, fhk16, fhk17, ghk18naaaaan, hk21]
                · try simp only [go_sem, n1, n2, n3, n4, hk2, ghk18naaaaan] at hk21
                  all_goals
                  (simp_all)
              · have ghk18naaaaan := no_f ghk18naaaaa
                have ghk18naaaabn := no_t ghk18naaaab
                rcases and_f ghk18naaaabn with ghk18naaaabna | ⟨ghk18naaaabna, ghk18naaaabnb⟩
                · try simp only [go_sem, n1, n2, n3, n4, hk2] at ghk18naaaaan
                  all_goals
                  try simp only [go_sem, n1, n2, n3, n4, hk2, ghk18naaaaan] at ghk18naaaabna
                  all_goals
                  obtain ⟨hk19, h⟩ := ck_some h
                  obtain ⟨hk20, h⟩ := ck_some h
                  rcases it_some h with ⟨hk21, h⟩ | ⟨hk21, h⟩
                  · try simp only [go_sem, n1, n2, n3, n4, hk2, ghk18naaaaan, ghk18naaaabna] at hk21
                    all_goals
                    obtain rfl := so_some h
                    refine ⟨0, fun L hL => ?_⟩
                    simp only [go_sem, ir3, fhk1, hk2, fhk3, fhk4, fhk5, fhk6, fhk7, fhk8, fhk9, fhk10, fhk11, fhk12, fhk13, fhk14, fhk15, fhk16, fhk17, ghk18naaaaan, ghk18naaaabna, hk21]
                  · try simp only [go_sem, n1, n2, n3, n4, hk2, ghk18naaaaan, ghk18naaaabna] at hk21
                    all_goals
                    (simp_all)
                · rcases and_f ghk18naaaabnb with ghk18naaaabnba | ⟨ghk18naaaabnba, ghk18naaaabnbb⟩
                  · try simp only [go_sem, n1, n2, n3, n4, hk2] at ghk18naaaaan
                    all_goals
                    try simp only [go_sem, n1, n2, n3, n4, hk2, ghk18naaaaan] at ghk18naaaabna
                    all_goals
                    try simp only [go_sem, n1, n2, n3, n4, hk2, ghk18naaaaan, ghk18naaaabna] at ghk18naaaabnba
                    all_goals
                    obtain ⟨hk19, h⟩ := ck_some h
                    obtain ⟨hk20, h⟩ := ck_some h
                    rcases it_some h with ⟨hk21, h⟩ | ⟨hk21, h⟩
                    · try simp only [go_sem, n1, n2, n3, n4, hk2, ghk18naaaaan, ghk18naaaabna, ghk18naaaabnba] at hk21
                      all_goals
                      obtain rfl := so_some h
                      refine ⟨0, fun L hL => ?_⟩
                      simp only [go_sem, ir3, fhk1, hk2, fhk3, fhk4, fhk5, fhk6, fhk7, fhk8, fhk9, fhk10, fhk11, fhk12, fhk13, fhk14, fhk15, fhk16, fhk17, ghk18naaaaan, ghk18naaaabna, ghk18naaaabnba, hk21]
                    · try simp only [go_sem, n1, n2, n3, n4, hk2, ghk18naaaaan, ghk18naaaabna, ghk18naaaabnba] at hk21
                      all_goals
                      (simp_all)
                  · try simp only [go_sem, n1, n2, n3, n4, hk2] at ghk18naaaaan
                    all_goals
                    try simp only [go_sem, n1, n2, n3, n4, hk2, ghk18naaaaan] at ghk18naaaabna
                    all_goals
                    try simp only [go_sem, n1, n2, n3, n4, hk2, ghk18naaaaan, ghk18naaaabna] at ghk18naaaabnba
                    all_goals
                    try simp only [go_sem, n1, n2, n3, n4, hk2, ghk18naaaaan, ghk18naaaabna, ghk18naaaabnba] at ghk18naaaabnbb
                    all_goals
                    obtain ⟨hk19, h⟩ := ck_some h
                    obtain ⟨hk20, h⟩ := ck_some h
                    rcases it_some h with ⟨hk21, h⟩ | ⟨hk21, h⟩
                    · try simp only [go_sem, n1, n2, n3, n4, hk2, ghk18naaaaan, ghk18naaaabna, ghk18naaaabnba, ghk18naaaabnbb] at hk21
                      all_goals
                      obtain rfl := so_some h
                      refine ⟨0, fun L hL => ?_⟩
                      simp only [go_sem, ir3, fhk1, hk2, fhk3, fhk4, fhk5, fhk6, fhk7, fhk8, fhk9, fhk10, fhk11, fhk12, fhk13, fhk14, fhk15, fhk16, fhk17, ghk18naaaaan, ghk18naaaabna, ghk18naaaabnba, ghk18naaaabnbb, hk21]
                    · try simp only [go_sem, n1, n2, n3, n4, hk2, ghk18naaaaan, ghk18naaaabna, ghk18naaaabnba, ghk18naaaabnbb] at hk21
                      all_goals
                      (simp_all)
            · obtain ⟨ghk18naaaaa, ghk18naaaab⟩ := or_f ghk18naaaa
              have ghk18naaaaan := no_f ghk18naaaaa
              have ghk18naaaabn := no_f ghk18naaaab
              obtain ⟨ghk18naaaabna, ghk18naaaabnb⟩ := and_t ghk18naaaabn
              obtain ⟨ghk18naaaabnba, ghk18naaaabnbb⟩ := and_t ghk18naaaabnb
              have ghk18naaabn := no_t ghk18naaab
              try simp only [go_sem, n1, n2, n3, n4, hk2] at ghk18naaaaan
              all_goals
              try simp only [go_sem, n1, n2, n3, n4, hk2, ghk18naaaaan] at ghk18naaaabna
              all_goals
              try simp only [go_sem, n1, n2, n3, n4, hk2, ghk18naaaaan, ghk18naaaabna] at ghk18naaaabnba
              all_goals
              try simp only [go_sem, n1, n2, n3, n4, hk2, ghk18naaaaan, ghk18naaaabna, ghk18naaaabnba] at ghk18naaaabnbb
              all_goals
              try simp only [go_sem, n1, n2, n3, n4, hk2, ghk18naaaaan, ghk18naaaabna, ghk18naaaabnba, ghk18naaaabnbb] at ghk18naaabn
              all_goals
              obtain ⟨hk19, h⟩ := ck_some h
              obtain ⟨hk20, h⟩ := ck_some h
              rcases it_some h with ⟨hk21, h⟩ | ⟨hk21, h⟩
              · try simp only [go_sem, n1, n2, n3, n4, hk2, ghk18naaaaan, ghk18naaaabna, ghk18naaaabnba, ghk18naaaabnbb, ghk18naaabn] at hk21
                all_goals
                obtain rfl := so_some h
                refine ⟨0, fun L hL => ?_⟩
                simp only [go_sem, ir3, fhk1, hk2, fhk3, fhk4, fhk5, fhk6, fhk7, fhk8, fhk9, fhk10, fhk11, fhk12, fhk13, fhk14, fhk15, fhk16, fhk17, ghk18naaaaan, ghk18naaaabna, ghk18naaaabnba, ghk18naaaabnbb, ghk18naaabn, hk21]
              · try simp only [go_sem, n1, n2, n3, n4, hk2, ghk18naaaaan, ghk18naaaabna, ghk18naaaabnba, ghk18naaaabnbb, ghk18naaabn] at hk21
                all_goals
                (simp_all)
          · obtain ⟨ghk18naaaa, ghk18naaab⟩ := or_f ghk18naaa
            obtain ⟨ghk18naaaaa, ghk18naaaab⟩ := or_f ghk18naaaa
            have ghk18naaaaan := no_f ghk18naaaaa
            have ghk18naaaabn := no_f ghk18naaaab
            obtain ⟨ghk18naaaabna, ghk18naaaabnb⟩ := and_t ghk18naaaabn
            obtain ⟨ghk18naaaabnba, ghk18naaaabnbb⟩ := and_t ghk18naaaabnb
            have ghk18naaabn := no_f ghk18naaab
            have ghk18naabn := no_t ghk18naab
            try simp only [go_sem, n1, n2, n3, n4, hk2] at ghk18naaaaan
            all_goals
            try simp only [go_sem, n1, n2, n3, n4, hk2, ghk18naaaaan] at ghk18naaaabna
            all_goals
            try simp only [go_sem, n1, n2, n3, n4, hk2, ghk18naaaaan, ghk18naaaabna] at ghk18naaaabnba
            all_goals
            try simp only [go_sem, n1, n2, n3, n4, hk2, ghk18naaaaan, ghk18naaaabna, ghk18naaaabnba] at ghk18naaaabnbb
            all_goals
            try simp only [go_sem, n1, n2, n3, n4, hk2, ghk18naaaaan, ghk18naaaabna, ghk18naaaabnba, ghk18naaaabnbb] at ghk18naaabn
            all_goals
            try simp only [go_sem, n1, n2, n3, n4, hk2, ghk18naaaaan, ghk18naaaabna, ghk18naaaabnba, ghk18naaaabnbb, ghk18naaabn] at ghk18naabn
            all_goals
            obtain ⟨hk19, h⟩ := ck_some h
            obtain ⟨hk20, h⟩ := ck_some h
            rcases it_some h with ⟨hk21, h⟩ | ⟨hk21, h⟩
            · try simp only [go_sem, n1, n2, n3, n4, hk2, ghk18naaaaan, ghk18naaaabna, ghk18naaaabnba, ghk18naaaabnbb, ghk18naaabn, ghk18naabn] at hk21
              all_goals
              obtain rfl := so_some h
              refine ⟨0, fun L hL => ?_⟩
              simp only [go_sem, ir3, fhk1, hk2, fhk3, fhk4, fhk5, fhk6, fhk7, fhk8, fhk9, fhk10, fhk11, fhk12, fhk13, fhk14, fhk15, fhk16, fhk17, ghk18naaaaan, ghk18naaaabna, ghk18naaaabnba, ghk18naaaabnbb, ghk18naaabn, ghk18naabn, hk21]
            · try simp only [go_sem, n1, n2, n3, n4, hk2, ghk18naaaaan, ghk18naaaabna, ghk18naaaabnba, ghk18naaaabnbb, ghk18naaabn, ghk18naabn] at hk21
              all_goals
              (simp_all)
        · obtain ⟨ghk18naaa, ghk18naab⟩ := or_f ghk18naa
          obtain ⟨ghk18naaaa, ghk18naaab⟩ := or_f ghk18naaa
          obtain ⟨ghk18naaaaa, ghk18naaaab⟩ := or_f ghk18naaaa
          have ghk18naaaaan := no_f ghk18naaaaa
          have ghk18naaaabn := no_f ghk18naaaab
          obtain ⟨ghk18naaaabna, ghk18naaaabnb⟩ := and_t ghk18naaaabn
          obtain ⟨ghk18naaaabnba, ghk18naaaabnbb⟩ := and_t ghk18naaaabnb
          have ghk18naaabn := no_f ghk18naaab
          have ghk18naabn := no_f ghk18naab
          have ghk18nabn := no_t ghk18nab
          try simp only [go_sem, n1, n2, n3, n4, hk2] at ghk18naaaaan
          all_goals
          try simp only [go_sem, n1, n2, n3, n4, hk2, ghk18naaaaan] at ghk18naaaabna
          all_goals
          try simp only [go_sem, n1, n2, n3, n4, hk2, ghk18naaaaan, ghk18naaaabna] at ghk18naaaabnba
          all_goals
          try simp only [go_sem, n1, n2, n3, n4, hk2, ghk18naaaaan, ghk18naaaabna, ghk18naaaabnba] at ghk18naaaabnbb
          all_goals
          try simp only [go_sem, n1, n2, n3, n4, hk2, ghk18naaaaan, ghk18naaaabna, ghk18naaaabnba, ghk18naaaabnbb] at ghk18naaabn
          all_goals
          try simp only [go_sem, n1, n2, n3, n4, hk2, ghk18naaaaan, ghk18naaaabna, ghk18naaaabnba, ghk18naaaabnbb, ghk18naaabn] at ghk18naabn
          all_goals
          try simp only [go_sem, n1, n2, n3, n4, hk2, ghk18naaaaan, ghk18naaaabna, ghk18naaaabnba, ghk18naaaabnbb, ghk18naaabn, ghk18naabn] at ghk18nabn
          all_goals
          obtain ⟨hk19, h⟩ := ck_some h
          obtain ⟨hk20, h⟩ := ck_some h
          rcases it_some h with ⟨hk21, h⟩ | ⟨hk21, h⟩
          · try simp only [go_sem, n1, n2, n3, n4, hk2, ghk18naaaaan, ghk18naaaabna, ghk18naaaabnba, ghk18naaaabnbb, ghk18naaabn, ghk18naabn, ghk18nabn] at hk21
            all_goals
            obtain rfl := so_some h
            refine ⟨0, fun L hL => ?_⟩
            simp only [go_sem, ir3, fhk1, hk2, fhk3, fhk4, fhk5, fhk6, fhk7, fhk8, fhk9, fhk10, fhk11, fhk12, fhk13, fhk14, fhk15, fhk16, fhk17, ghk18naaaaan, ghk18naaaabna, ghk18naaaabnba, ghk18naaaabnbb, ghk18naaabn, ghk18naabn, ghk18nabn, hk21]
          · try simp only [go_sem, n1, n2, n3, n4, hk2, ghk18naaaaan, ghk18naaaabna, ghk18naaaabnba, ghk18naaaabnbb, ghk18naaabn, ghk18naabn, ghk18nabn] at hk21
            all_goals
            (simp_all)
      · obtain ⟨ghk18naa, ghk18nab⟩ := or_f ghk18na
        obtain ⟨ghk18naaa, ghk18naab⟩ := or_f ghk18naa
        obtain ⟨ghk18naaaa, ghk18naaab⟩ := or_f ghk18naaa
        obtain ⟨ghk18naaaaa, ghk18naaaab⟩ := or_f ghk18naaaa
        have ghk18naaaaan := no_f ghk18naaaaa
        have ghk18naaaabn := no_f ghk18naaaab
        obtain ⟨ghk18naaaabna, ghk18naaaabnb⟩ := and_t ghk18naaaabn
        obtain ⟨ghk18naaaabnba, ghk18naaaabnbb⟩ := and_t ghk18naaaabnb
        have ghk18naaabn := no_f ghk18naaab
        have ghk18naabn := no_f ghk18naab
        have ghk18nabn := no_f ghk18nab
        have ghk18nbn := no_t ghk18nb
        try simp only [go_sem, n1, n2, n3, n4, hk2] at ghk18naaaaan
        all_goals
        try simp only [go_sem, n1, n2, n3, n4, hk2, ghk18naaaaan] at ghk18naaaabna
        all_goals
        try simp only [go_sem, n1, n2, n3, n4, hk2, ghk18naaaaan, ghk18naaaabna] at ghk18naaaabnba
        all_goals
        try simp only [go_sem, n1, n2, n3, n4, hk2, ghk18naaaaan, ghk18naaaabna, ghk18naaaabnba] at ghk18naaaabnbb
        all_goals
        try simp only [go_sem, n1, n2, n3, n4, hk2, ghk18naaaaan, ghk18naaaabna, ghk18naaaabnba, ghk18naaaabnbb] at ghk18naaabn
        all_goals
        try simp only [go_sem, n1, n2, n3, n4, hk2, ghk18naaaaan, ghk18naaaabna, ghk18naaaabnba, ghk18naaaabnbb, ghk18naaabn] at ghk18naabn
        all_goals
        try simp only [go_sem, n1, n2, n3, n4, hk2, ghk18naaaaan, ghk18naaaabna, ghk18naaaabnba, ghk18naaaabnbb, ghk18naaabn, ghk18naabn] at ghk18nabn
        all_goals
        try simp only [go_sem, n1, n2, n3, n4, hk2, ghk18naaaaan, ghk18naaaabna, ghk18naaaabnba, ghk18naaaabnbb, ghk18naaabn, ghk18naabn, ghk18nabn] at ghk18nbn
        all_goals
        obtain ⟨hk19, h⟩ := ck_some h
        obtain ⟨hk20, h⟩ := ck_some h
        rcases it_some h with ⟨hk21, h⟩ | ⟨hk21, h⟩
        · try simp only [go_sem, n1, n2, n3, n4, hk2, ghk18naaaaan, ghk18naaaabna, ghk18naaaabnba, ghk18naaaabnbb, ghk18naaabn, ghk18naabn, ghk18nabn, ghk18nbn] at hk21
          all_goals
          obtain rfl := so_some h
          refine ⟨0, fun L hL => ?_⟩
          simp only [go_sem, ir3, fhk1, hk2, fhk3, fhk4, fhk5, fhk6, fhk7, fhk8, fhk9, fhk10, fhk11, fhk12, fhk13, fhk14, fhk15, fhk16, fhk17, ghk18naaaaan, ghk18naaaabna, ghk18naaaabnba, ghk18naaaabnbb, ghk18naaabn, ghk18naabn, ghk18nabn, ghk18nbn, hk21]
        · try simp only [go_sem, n1, n2, n3, n4, hk2, ghk18naaaaan, ghk18naaaabna, ghk18naaaabnba, ghk18naaaabnbb, ghk18naaabn, ghk18naabn, ghk18nabn, ghk18nbn] at hk21
          all_goals
          (simp_all)


end Go.Proofs.YtmpmmodbigjdgaaDoor
