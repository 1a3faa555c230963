/- Codes and contracts of the functions that DK reaches, and that their typed forms say what they do. No condition. -/
import Derived.Test.YtbcgbmckojlpjaaDoorDKKa
import Derived.Test.YtbcgbmckojlpjaaDoorRows
import Derived.WalkKit
namespace Go.Proofs.YtbcgbmckojlpjaaDoor
open Go Go.RowKit
set_option linter.unusedVariables false
set_option linter.unusedSimpArgs false
set_option maxRecDepth 10000

def ir4_v : List Nat := [0, 2, 3, 4, 5, 6, 7, 8, 9, 10, 11, 12, 13, 14, 15, 16, 17, 18, 19, 20, 21, 22, 23, 24, 25, 26, 27, 28, 29, 30, 31, 32, 33, 34, 35, 36, 37, 38, 39, 40, 41, 42, 43, 44, 45, 46]
def ir4 : AFn := ⟨1, 46, .seq (.region false [
    ⟨.var 1, 2, none, .mov (.c (.bool false))⟩])
 (.seq (.test false [
    ⟨.push, 47, none, .mov (.v 0)⟩,
    ⟨.push, 48, none, .call 6 [(.s 0)]⟩] (.s 0)
  (.seq (.region false [
      ⟨.var 1, 2, none, .mov (.c (.bool true))⟩])
   (.ret))
  (.skip))
 (.seq (.region false [
    ⟨.push, 50, none, .mov (.v 0)⟩,
    ⟨.push, 51, none, .call 24 [(.s 0)]⟩,
    ⟨.push, 49, none, .mov (.s 0)⟩,
    ⟨.push, 52, none, .ext (.s 0) 0⟩,
    ⟨.push, 53, none, .ext (.s 1) 1⟩,
    ⟨.push, 54, none, .ext (.s 2) 2⟩,
    ⟨.var 2, 3, none, .mov (.s 2)⟩,
    ⟨.var 3, 4, none, .mov (.s 1)⟩,
    ⟨.var 4, 5, none, .mov (.s 0)⟩])
 (.seq (.region false [
    ⟨.push, 56, none, .mov (.v 2)⟩,
    ⟨.push, 57, none, .mov (.v 3)⟩,
    ⟨.push, 58, none, .mov (.v 4)⟩,
    ⟨.push, 59, none, .call 25 [(.s 2), (.s 1), (.s 0)]⟩,
    ⟨.push, 55, none, .mov (.s 0)⟩,
    ⟨.push, 60, none, .ext (.s 0) 0⟩,
    ⟨.push, 61, none, .ext (.s 1) 1⟩,
    ⟨.var 5, 6, none, .mov (.s 1)⟩,
    ⟨.var 6, 7, none, .mov (.s 0)⟩])
 (.seq (.region false [
    ⟨.push, 63, none, .mov (.v 2)⟩,
    ⟨.push, 64, none, .mov (.v 3)⟩,
    ⟨.push, 65, none, .mov (.v 4)⟩,
    ⟨.push, 66, none, .call 26 [(.s 2), (.s 1), (.s 0)]⟩,
    ⟨.push, 62, none, .mov (.s 0)⟩,
    ⟨.push, 67, none, .ext (.s 0) 0⟩,
    ⟨.push, 68, none, .ext (.s 1) 1⟩,
    ⟨.var 7, 8, none, .mov (.s 1)⟩,
    ⟨.var 8, 9, none, .mov (.s 0)⟩])
 (.seq (.region false [
    ⟨.push, 69, none, .mov (.v 0)⟩,
    ⟨.push, 70, none, .call 27 [(.s 0)]⟩,
    ⟨.var 9, 10, none, .mov (.s 0)⟩])
 (.seq (.region false [
    ⟨.push, 72, none, .mov (.v 9)⟩,
    ⟨.push, 73, none, .call 28 [(.s 0)]⟩,
    ⟨.push, 71, none, .mov (.s 0)⟩,
    ⟨.push, 74, none, .ext (.s 0) 0⟩,
    ⟨.push, 75, none, .ext (.s 1) 1⟩,
    ⟨.push, 76, none, .ext (.s 2) 2⟩,
    ⟨.var 10, 11, none, .mov (.s 2)⟩,
    ⟨.var 11, 12, none, .mov (.s 1)⟩,
    ⟨.var 12, 13, none, .mov (.s 0)⟩])
 (.seq (.region false [
    ⟨.push, 78, none, .mov (.v 9)⟩,
    ⟨.push, 79, none, .call 29 [(.s 0)]⟩,
    ⟨.push, 77, none, .mov (.s 0)⟩,
    ⟨.push, 80, none, .ext (.s 0) 0⟩,
    ⟨.push, 81, none, .ext (.s 1) 1⟩,
    ⟨.push, 82, none, .ext (.s 2) 2⟩,
    ⟨.var 13, 14, none, .mov (.s 2)⟩,
    ⟨.var 14, 15, none, .mov (.s 1)⟩,
    ⟨.var 15, 16, none, .mov (.s 0)⟩])
 (.seq (.region false [
    ⟨.push, 83, none, .mov (.v 0)⟩,
    ⟨.push, 84, none, .call 30 [(.s 0)]⟩,
    ⟨.var 16, 17, none, .mov (.s 0)⟩])
 (.seq (.region false [
    ⟨.push, 86, none, .mov (.v 16)⟩,
    ⟨.push, 87, none, .call 31 [(.s 0)]⟩,
    ⟨.push, 85, none, .mov (.s 0)⟩,
    ⟨.push, 88, none, .ext (.s 0) 0⟩,
    ⟨.push, 89, none, .ext (.s 1) 1⟩,
    ⟨.var 17, 18, none, .mov (.s 1)⟩,
    ⟨.var 18, 19, none, .mov (.s 0)⟩])
 (.seq (.region false [
    ⟨.push, 91, none, .mov (.v 16)⟩,
    ⟨.push, 92, none, .call 32 [(.s 0)]⟩,
    ⟨.push, 90, none, .mov (.s 0)⟩,
    ⟨.push, 93, none, .ext (.s 0) 0⟩,
    ⟨.push, 94, none, .ext (.s 1) 1⟩,
    ⟨.var 19, 20, none, .mov (.s 1)⟩,
    ⟨.var 20, 21, none, .mov (.s 0)⟩])
 (.seq (.region false [
    ⟨.push, 96, none, .mov (.v 0)⟩,
    ⟨.push, 97, none, .call 33 [(.s 0)]⟩,
    ⟨.push, 95, none, .mov (.s 0)⟩,
    ⟨.push, 98, none, .ext (.s 0) 0⟩,
    ⟨.push, 99, none, .ext (.s 1) 1⟩,
    ⟨.var 21, 22, none, .mov (.s 1)⟩,
    ⟨.var 22, 23, none, .mov (.s 0)⟩])
 (.seq (.region false [
    ⟨.push, 101, none, .mov (.v 21)⟩,
    ⟨.push, 102, none, .mov (.v 22)⟩,
    ⟨.push, 103, none, .call 34 [(.s 1), (.s 0)]⟩,
    ⟨.push, 100, none, .mov (.s 0)⟩,
    ⟨.push, 104, none, .ext (.s 0) 0⟩,
    ⟨.push, 105, none, .ext (.s 1) 1⟩,
    ⟨.var 23, 24, none, .alloc (.agg [.int .i64 (0), .int .i64 (0)])⟩,
    ⟨.no, 0, none, .store 2 (.v 23) (.s 1)⟩,
    ⟨.var 24, 25, none, .mov (.s 0)⟩])
 (.seq (.region false [
    ⟨.push, 107, none, .mov (.v 21)⟩,
    ⟨.push, 108, none, .mov (.v 22)⟩,
    ⟨.push, 109, none, .call 35 [(.s 1), (.s 0)]⟩,
    ⟨.push, 106, none, .mov (.s 0)⟩,
    ⟨.push, 110, none, .ext (.s 0) 0⟩,
    ⟨.push, 111, none, .ext (.s 1) 1⟩,
    ⟨.var 25, 26, none, .alloc (.agg [.int .i64 (0), .int .i64 (0)])⟩,
    ⟨.no, 0, none, .store 2 (.v 25) (.s 1)⟩,
    ⟨.var 26, 27, none, .mov (.s 0)⟩])
 (.seq (.region false [
    ⟨.push, 113, none, .mov (.v 22)⟩,
    ⟨.push, 114, none, .mov (.v 21)⟩,
    ⟨.push, 115, none, .call 34 [(.s 1), (.s 0)]⟩,
    ⟨.push, 112, none, .mov (.s 0)⟩,
    ⟨.push, 116, none, .ext (.s 0) 0⟩,
    ⟨.push, 117, none, .ext (.s 1) 1⟩,
    ⟨.var 27, 28, none, .alloc (.agg [.int .i64 (0), .int .i64 (0)])⟩,
    ⟨.no, 0, none, .store 2 (.v 27) (.s 1)⟩,
    ⟨.var 28, 29, none, .mov (.s 0)⟩])
 (.seq (.region false [
    ⟨.push, 118, none, .mov (.v 0)⟩,
    ⟨.push, 119, none, .call 36 [(.s 0)]⟩,
    ⟨.var 29, 30, none, .mov (.s 0)⟩])
 (.seq (.region false [
    ⟨.push, 120, none, .mov (.v 29)⟩,
    ⟨.push, 121, none, .call 37 [(.s 0)]⟩,
    ⟨.var 30, 31, none, .mov (.s 0)⟩])
 (.seq (.region false [
    ⟨.push, 123, none, .mov (.v 30)⟩,
    ⟨.push, 124, none, .call 38 [(.s 0)]⟩,
    ⟨.push, 122, none, .mov (.s 0)⟩,
    ⟨.push, 125, none, .ext (.s 0) 0⟩,
    ⟨.push, 126, none, .ext (.s 1) 1⟩,
    ⟨.var 31, 32, none, .mov (.s 1)⟩,
    ⟨.var 32, 33, none, .mov (.s 0)⟩])
 (.seq (.region false [
    ⟨.push, 127, none, .mov (.v 0)⟩,
    ⟨.push, 128, none, .call 39 [(.s 0)]⟩,
    ⟨.var 33, 34, none, .mov (.s 0)⟩])
 (.seq (.region false [
    ⟨.push, 130, none, .mov (.v 33)⟩,
    ⟨.push, 131, none, .call 38 [(.s 0)]⟩,
    ⟨.push, 129, none, .mov (.s 0)⟩,
    ⟨.push, 132, none, .ext (.s 0) 0⟩,
    ⟨.push, 133, none, .ext (.s 1) 1⟩,
    ⟨.var 34, 35, none, .mov (.s 1)⟩,
    ⟨.var 35, 36, none, .mov (.s 0)⟩])
 (.seq (.region false [
    ⟨.push, 135, none, .mov (.v 33)⟩,
    ⟨.push, 136, none, .call 40 [(.s 0)]⟩,
    ⟨.push, 134, none, .mov (.s 0)⟩,
    ⟨.push, 137, none, .ext (.s 0) 0⟩,
    ⟨.push, 138, none, .ext (.s 1) 1⟩,
    ⟨.var 36, 37, none, .mov (.s 1)⟩,
    ⟨.var 37, 38, none, .mov (.s 0)⟩])
 (.seq (.test false [
    ⟨.push, 139, none, .mov (.v 6)⟩,
    ⟨.push, 140, none, .mov (.v 8)⟩,
    ⟨.push, 141, none, .bin false .neq (.s 1) (.s 0)⟩,
    ⟨.push, 142, none, .mov (.s 0)⟩,
    ⟨.push, 143, (some ((.s 0), false)), .mov (.v 5)⟩,
    ⟨.push, 144, (some ((.s 1), false)), .mov (.v 7)⟩,
    ⟨.push, 145, (some ((.s 2), false)), .bin false .neq (.s 1) (.s 0)⟩,
    ⟨.push, 146, none, .pick (.s 3) (.c (.bool true)) (.s 0)⟩,
    ⟨.push, 147, none, .mov (.s 0)⟩,
    ⟨.push, 148, (some ((.s 0), false)), .mov (.v 12)⟩,
    ⟨.push, 149, (some ((.s 1), false)), .mov (.v 15)⟩,
    ⟨.push, 150, (some ((.s 2), false)), .bin false .neq (.s 1) (.s 0)⟩,
    ⟨.push, 151, none, .pick (.s 3) (.c (.bool true)) (.s 0)⟩,
    ⟨.push, 152, none, .mov (.s 0)⟩,
    ⟨.push, 153, (some ((.s 0), false)), .mov (.v 10)⟩,
    ⟨.push, 154, (some ((.s 1), false)), .mov (.v 13)⟩,
    ⟨.push, 155, (some ((.s 2), false)), .bin false .neq (.s 1) (.s 0)⟩,
    ⟨.push, 156, none, .pick (.s 3) (.c (.bool true)) (.s 0)⟩,
    ⟨.push, 157, none, .mov (.s 0)⟩,
    ⟨.push, 158, (some ((.s 0), false)), .mov (.v 11)⟩,
    ⟨.push, 159, (some ((.s 1), false)), .mov (.v 14)⟩,
    ⟨.push, 160, (some ((.s 2), false)), .bin false .neq (.s 1) (.s 0)⟩,
    ⟨.push, 161, none, .pick (.s 3) (.c (.bool true)) (.s 0)⟩,
    ⟨.push, 162, none, .mov (.s 0)⟩,
    ⟨.push, 163, (some ((.s 0), false)), .mov (.v 18)⟩,
    ⟨.push, 164, (some ((.s 1), false)), .mov (.v 20)⟩,
    ⟨.push, 165, (some ((.s 2), false)), .bin false .neq (.s 1) (.s 0)⟩,
    ⟨.push, 166, none, .pick (.s 3) (.c (.bool true)) (.s 0)⟩,
    ⟨.push, 167, none, .mov (.s 0)⟩,
    ⟨.push, 168, (some ((.s 0), false)), .mov (.v 17)⟩,
    ⟨.push, 169, (some ((.s 1), false)), .mov (.v 19)⟩,
    ⟨.push, 170, (some ((.s 2), false)), .bin false .neq (.s 1) (.s 0)⟩,
    ⟨.push, 171, none, .pick (.s 3) (.c (.bool true)) (.s 0)⟩,
    ⟨.push, 172, none, .mov (.s 0)⟩,
    ⟨.push, 173, (some ((.s 0), false)), .mov (.v 24)⟩,
    ⟨.push, 174, (some ((.s 1), false)), .mov (.v 26)⟩,
    ⟨.push, 175, (some ((.s 2), false)), .bin false .neq (.s 1) (.s 0)⟩,
    ⟨.push, 176, none, .pick (.s 3) (.c (.bool true)) (.s 0)⟩,
    ⟨.push, 177, none, .mov (.s 0)⟩,
    ⟨.push, 178, (some ((.s 0), false)), .load true 2 (.v 23)⟩,
    ⟨.push, 179, (some ((.s 1), false)), .load true 2 (.v 25)⟩,
    ⟨.push, 180, (some ((.s 2), false)), .eqA true [1, 1] (.s 1) (.s 0)⟩,
    ⟨.push, 181, none, .pick (.s 3) (.c (.bool true)) (.s 0)⟩,
    ⟨.push, 182, none, .mov (.s 0)⟩,
    ⟨.push, 183, (some ((.s 0), false)), .mov (.v 28)⟩,
    ⟨.push, 184, (some ((.s 1), false)), .mov (.v 26)⟩,
    ⟨.push, 185, (some ((.s 2), false)), .bin false .neq (.s 1) (.s 0)⟩,
    ⟨.push, 186, none, .pick (.s 3) (.c (.bool true)) (.s 0)⟩,
    ⟨.push, 187, none, .mov (.s 0)⟩,
    ⟨.push, 188, (some ((.s 0), false)), .mov (.v 30)⟩,
    ⟨.push, 189, (some ((.s 1), false)), .mov (.v 29)⟩,
    ⟨.push, 190, (some ((.s 2), false)), .call 41 [(.s 0)]⟩,
    ⟨.push, 191, (some ((.s 3), false)), .bin false .neq (.s 2) (.s 0)⟩,
    ⟨.push, 192, none, .pick (.s 4) (.c (.bool true)) (.s 0)⟩,
    ⟨.push, 193, none, .mov (.s 0)⟩,
    ⟨.push, 194, (some ((.s 0), false)), .mov (.v 32)⟩,
    ⟨.push, 195, (some ((.s 1), false)), .mov (.v 30)⟩,
    ⟨.push, 196, (some ((.s 2), false)), .bin false .neq (.s 0) (.c (.str []))⟩,
    ⟨.push, 197, (some ((.s 3), false)), .bin true .neq (.s 2) (.s 0)⟩,
    ⟨.push, 198, none, .pick (.s 4) (.c (.bool true)) (.s 0)⟩,
    ⟨.push, 199, none, .mov (.s 0)⟩,
    ⟨.push, 200, (some ((.s 0), false)), .mov (.v 32)⟩,
    ⟨.push, 201, (some ((.s 1), false)), .mov (.s 0)⟩,
    ⟨.push, 202, (some ((.s 0), true)), .mov (.v 31)⟩,
    ⟨.push, 203, (some ((.s 1), true)), .mov (.v 29)⟩,
    ⟨.push, 204, (some ((.s 2), true)), .bin false .neq (.s 1) (.s 0)⟩,
    ⟨.push, 205, (some ((.s 5), false)), .pick (.s 3) (.s 0) (.c (.bool false))⟩,
    ⟨.push, 206, none, .pick (.s 6) (.c (.bool true)) (.s 0)⟩,
    ⟨.push, 207, none, .mov (.s 0)⟩,
    ⟨.push, 208, (some ((.s 0), false)), .mov (.v 35)⟩,
    ⟨.push, 209, (some ((.s 1), false)), .mov (.v 37)⟩,
    ⟨.push, 210, (some ((.s 2), false)), .bin true .neq (.s 1) (.s 0)⟩,
    ⟨.push, 211, none, .pick (.s 3) (.c (.bool true)) (.s 0)⟩,
    ⟨.push, 212, none, .mov (.s 0)⟩,
    ⟨.push, 213, (some ((.s 0), false)), .mov (.v 34)⟩,
    ⟨.push, 214, (some ((.s 1), false)), .mov (.v 36)⟩,
    ⟨.push, 215, (some ((.s 2), false)), .bin false .neq (.s 1) (.s 0)⟩,
    ⟨.push, 216, none, .pick (.s 3) (.c (.bool true)) (.s 0)⟩,
    ⟨.push, 217, none, .mov (.s 0)⟩,
    ⟨.push, 218, (some ((.s 0), false)), .mov (.v 9)⟩,
    ⟨.push, 219, (some ((.s 1), false)), .call 42 [(.s 0)]⟩,
    ⟨.push, 220, (some ((.s 2), false)), .mov (.v 9)⟩,
    ⟨.push, 221, (some ((.s 3), false)), .call 43 [(.s 0)]⟩,
    ⟨.push, 222, (some ((.s 4), false)), .bin true .neq (.s 2) (.s 0)⟩,
    ⟨.push, 223, none, .pick (.s 5) (.c (.bool true)) (.s 0)⟩] (.s 0)
  (.seq (.region false [
      ⟨.var 1, 2, none, .mov (.c (.bool false))⟩])
   (.ret))
  (.skip))
 (.seq (.test false [
    ⟨.push, 224, none, .mov (.v 24)⟩,
    ⟨.push, 225, none, .bin false .eql (.s 0) (.c (.int .i64 (0)))⟩,
    ⟨.push, 226, none, .mov (.s 0)⟩,
    ⟨.push, 227, (some ((.s 0), true)), .fldAddr 0 (.v 23)⟩,
    ⟨.push, 228, (some ((.s 1), true)), .load false 1 (.s 0)⟩,
    ⟨.push, 229, (some ((.s 2), true)), .fldAddr 0 (.v 27)⟩,
    ⟨.push, 230, (some ((.s 3), true)), .load false 1 (.s 0)⟩,
    ⟨.push, 231, (some ((.s 4), true)), .un .neg (.s 0)⟩,
    ⟨.push, 232, (some ((.s 5), true)), .bin false .neq (.s 3) (.s 0)⟩,
    ⟨.push, 233, (some ((.s 6), true)), .mov (.s 0)⟩,
    ⟨.push, 234, (some ((.s 0), false)), .fldAddr 1 (.v 23)⟩,
    ⟨.push, 235, (some ((.s 1), false)), .load false 1 (.s 0)⟩,
    ⟨.push, 236, (some ((.s 2), false)), .fldAddr 1 (.v 27)⟩,
    ⟨.push, 237, (some ((.s 3), false)), .load false 1 (.s 0)⟩,
    ⟨.push, 238, (some ((.s 4), false)), .bin false .neq (.s 2) (.s 0)⟩,
    ⟨.push, 239, (some ((.s 12), true)), .pick (.s 5) (.c (.bool true)) (.s 0)⟩,
    ⟨.push, 240, none, .pick (.s 13) (.s 0) (.c (.bool false))⟩] (.s 0)
  (.seq (.region false [
      ⟨.var 1, 2, none, .mov (.c (.bool false))⟩])
   (.ret))
  (.skip))
 (.seq (.test false [
    ⟨.push, 241, none, .mov (.v 6)⟩,
    ⟨.push, 242, none, .bin false .neq (.s 0) (.c (.int .i64 (0)))⟩] (.s 0)
  (.seq (.region false [
      ⟨.var 1, 2, none, .mov (.c (.bool true))⟩])
   (.ret))
  (.skip))
 (.seq (.region false [
    ⟨.push, 244, none, .mov (.v 5)⟩,
    ⟨.push, 245, none, .call 28 [(.s 0)]⟩,
    ⟨.push, 243, none, .mov (.s 0)⟩,
    ⟨.push, 246, none, .ext (.s 0) 0⟩,
    ⟨.push, 247, none, .ext (.s 1) 1⟩,
    ⟨.push, 248, none, .ext (.s 2) 2⟩,
    ⟨.var 38, 39, none, .mov (.s 2)⟩,
    ⟨.var 39, 40, none, .mov (.s 1)⟩,
    ⟨.var 40, 41, none, .mov (.s 0)⟩])
 (.seq (.region false [
    ⟨.push, 250, none, .mov (.v 5)⟩,
    ⟨.push, 251, none, .call 31 [(.s 0)]⟩,
    ⟨.push, 249, none, .mov (.s 0)⟩,
    ⟨.push, 252, none, .ext (.s 0) 0⟩,
    ⟨.push, 253, none, .ext (.s 1) 1⟩,
    ⟨.var 41, 42, none, .mov (.s 1)⟩,
    ⟨.var 42, 43, none, .mov (.s 0)⟩])
 (.seq (.test false [
    ⟨.push, 254, none, .mov (.v 40)⟩,
    ⟨.push, 255, none, .bin false .neq (.s 0) (.c (.int .i64 (0)))⟩,
    ⟨.push, 256, none, .mov (.s 0)⟩,
    ⟨.push, 257, (some ((.s 0), false)), .mov (.v 38)⟩,
    ⟨.push, 258, (some ((.s 1), false)), .mov (.v 3)⟩,
    ⟨.push, 259, (some ((.s 2), false)), .bin false .neq (.s 1) (.s 0)⟩,
    ⟨.push, 260, none, .pick (.s 3) (.c (.bool true)) (.s 0)⟩,
    ⟨.push, 261, none, .mov (.s 0)⟩,
    ⟨.push, 262, (some ((.s 0), false)), .mov (.v 39)⟩,
    ⟨.push, 263, (some ((.s 1), false)), .mov (.v 4)⟩,
    ⟨.push, 264, (some ((.s 2), false)), .bin false .neq (.s 1) (.s 0)⟩,
    ⟨.push, 265, none, .pick (.s 3) (.c (.bool true)) (.s 0)⟩,
    ⟨.push, 266, none, .mov (.s 0)⟩,
    ⟨.push, 267, (some ((.s 0), false)), .mov (.v 42)⟩,
    ⟨.push, 268, (some ((.s 1), false)), .bin false .neq (.s 0) (.c (.int .i64 (0)))⟩,
    ⟨.push, 269, none, .pick (.s 2) (.c (.bool true)) (.s 0)⟩,
    ⟨.push, 270, none, .mov (.s 0)⟩,
    ⟨.push, 271, (some ((.s 0), false)), .mov (.v 41)⟩,
    ⟨.push, 272, (some ((.s 1), false)), .mov (.v 2)⟩,
    ⟨.push, 273, (some ((.s 2), false)), .bin false .neq (.s 1) (.s 0)⟩,
    ⟨.push, 274, none, .pick (.s 3) (.c (.bool true)) (.s 0)⟩] (.s 0)
  (.seq (.region false [
      ⟨.var 1, 2, none, .mov (.c (.bool false))⟩])
   (.ret))
  (.skip))
 (.seq (.test false [
    ⟨.push, 275, none, .mov (.v 5)⟩,
    ⟨.push, 276, none, .bin false .rem (.s 0) (.c (.int .i64 (10000)))⟩,
    ⟨.push, 277, none, .bin false .eql (.s 0) (.c (.int .i64 (0)))⟩] (.s 0)
  (.seq (.region false [
      ⟨.var 1, 2, none, .mov (.c (.bool true))⟩])
   (.ret))
  (.skip))
 (.seq (.region false [
    ⟨.push, 279, none, .mov (.v 5)⟩,
    ⟨.push, 280, none, .bin false .sub (.s 0) (.c (.int .i64 (1)))⟩,
    ⟨.push, 281, none, .call 28 [(.s 0)]⟩,
    ⟨.push, 278, none, .mov (.s 0)⟩,
    ⟨.push, 282, none, .ext (.s 0) 0⟩,
    ⟨.push, 283, none, .ext (.s 1) 1⟩,
    ⟨.push, 284, none, .ext (.s 2) 2⟩,
    ⟨.var 43, 44, none, .mov (.s 2)⟩,
    ⟨.var 44, 45, none, .mov (.s 1)⟩,
    ⟨.var 45, 46, none, .mov (.s 0)⟩])
 (.seq (.region false [
    ⟨.push, 285, none, .mov (.v 45)⟩,
    ⟨.push, 286, none, .bin false .eql (.s 0) (.c (.int .i64 (0)))⟩,
    ⟨.push, 287, none, .mov (.s 0)⟩,
    ⟨.push, 288, (some ((.s 0), true)), .mov (.v 43)⟩,
    ⟨.push, 289, (some ((.s 1), true)), .mov (.v 3)⟩,
    ⟨.push, 290, (some ((.s 2), true)), .bin false .neq (.s 1) (.s 0)⟩,
    ⟨.push, 291, (some ((.s 3), true)), .mov (.s 0)⟩,
    ⟨.push, 292, (some ((.s 0), false)), .mov (.v 44)⟩,
    ⟨.push, 293, (some ((.s 1), false)), .mov (.v 4)⟩,
    ⟨.push, 294, (some ((.s 2), false)), .bin false .neq (.s 1) (.s 0)⟩,
    ⟨.push, 295, (some ((.s 7), true)), .pick (.s 3) (.c (.bool true)) (.s 0)⟩,
    ⟨.push, 296, none, .pick (.s 8) (.s 0) (.c (.bool false))⟩,
    ⟨.var 1, 2, none, .mov (.s 0)⟩])
 (.ret)))))))))))))))))))))))))))))), [.t 1]⟩
noncomputable def t_laws_FnClocks : List (Nat × Ctr) := [(6, c_laws_f6big), (24, c_spec_DrawTimeOf), (25, c_impl_TimeOf), (26, c_spec_TimeOf), (27, c_spec_DrawClockOf), (28, c_impl_ClockOf), (29, c_spec_ClockOf), (30, c_spec_DrawDayOf), (31, c_impl_DayOf), (32, c_spec_DayOf), (33, c_spec_DrawHoursBetween), (34, c_impl_HoursBetween), (35, c_spec_HoursBetween), (36, c_spec_DrawTimeText), (37, c_impl_TimeText), (38, c_impl_ReadTime), (39, c_spec_DrawReadTime), (40, c_spec_ReadTime), (41, c_spec_TimeText), (42, c_impl_ValidTime), (43, c_spec_ValidTime)]
theorem lk_laws_FnClocks_6 : look t_laws_FnClocks 6 = some c_laws_f6big := rfl
theorem lk_laws_FnClocks_24 : look t_laws_FnClocks 24 = some c_spec_DrawTimeOf := rfl
theorem lk_laws_FnClocks_25 : look t_laws_FnClocks 25 = some c_impl_TimeOf := rfl
theorem lk_laws_FnClocks_26 : look t_laws_FnClocks 26 = some c_spec_TimeOf := rfl
theorem lk_laws_FnClocks_27 : look t_laws_FnClocks 27 = some c_spec_DrawClockOf := rfl
theorem lk_laws_FnClocks_28 : look t_laws_FnClocks 28 = some c_impl_ClockOf := rfl
theorem lk_laws_FnClocks_29 : look t_laws_FnClocks 29 = some c_spec_ClockOf := rfl
theorem lk_laws_FnClocks_30 : look t_laws_FnClocks 30 = some c_spec_DrawDayOf := rfl
theorem lk_laws_FnClocks_31 : look t_laws_FnClocks 31 = some c_impl_DayOf := rfl
theorem lk_laws_FnClocks_32 : look t_laws_FnClocks 32 = some c_spec_DayOf := rfl
theorem lk_laws_FnClocks_33 : look t_laws_FnClocks 33 = some c_spec_DrawHoursBetween := rfl
theorem lk_laws_FnClocks_34 : look t_laws_FnClocks 34 = some c_impl_HoursBetween := rfl
theorem lk_laws_FnClocks_35 : look t_laws_FnClocks 35 = some c_spec_HoursBetween := rfl
theorem lk_laws_FnClocks_36 : look t_laws_FnClocks 36 = some c_spec_DrawTimeText := rfl
theorem lk_laws_FnClocks_37 : look t_laws_FnClocks 37 = some c_impl_TimeText := rfl
theorem lk_laws_FnClocks_38 : look t_laws_FnClocks 38 = some c_impl_ReadTime := rfl
theorem lk_laws_FnClocks_39 : look t_laws_FnClocks 39 = some c_spec_DrawReadTime := rfl
theorem lk_laws_FnClocks_40 : look t_laws_FnClocks 40 = some c_spec_ReadTime := rfl
theorem lk_laws_FnClocks_41 : look t_laws_FnClocks 41 = some c_spec_TimeText := rfl
theorem lk_laws_FnClocks_42 : look t_laws_FnClocks 42 = some c_impl_ValidTime := rfl
theorem lk_laws_FnClocks_43 : look t_laws_FnClocks 43 = some c_spec_ValidTime := rfl
noncomputable def c_laws_FnClocks : Ctr := mkF t_laws_FnClocks ir4 [.bor]
theorem s_laws_FnClocks : Sound Tryd.prog 4 c_laws_FnClocks := mkF_sound _ rfl (snd_cons s_laws_f6big (snd_cons s_spec_DrawTimeOf (snd_cons s_impl_TimeOf (snd_cons s_spec_TimeOf (snd_cons s_spec_DrawClockOf (snd_cons s_impl_ClockOf (snd_cons s_spec_ClockOf (snd_cons s_spec_DrawDayOf (snd_cons s_impl_DayOf (snd_cons s_spec_DayOf (snd_cons s_spec_DrawHoursBetween (snd_cons s_impl_HoursBetween (snd_cons s_spec_HoursBetween (snd_cons s_spec_DrawTimeText (snd_cons s_impl_TimeText (snd_cons s_impl_ReadTime (snd_cons s_spec_DrawReadTime (snd_cons s_spec_ReadTime (snd_cons s_spec_TimeText (snd_cons s_impl_ValidTime (snd_cons s_spec_ValidTime snd_nil))))))))))))))))))))) (by kernel_rfl : chkFn Tryd.prog 4 ir4 ir4_v = true)
theorem M_laws_FnClocks : c_laws_FnClocks.modes = [.bor] := rfl
theorem Fl_laws_FnClocks : c_laws_FnClocks.flat = true := rfl
attribute [go_sem] M_laws_FnClocks Fl_laws_FnClocks
attribute [go_sem] lk_laws_FnClocks_6 lk_laws_FnClocks_24 lk_laws_FnClocks_25 lk_laws_FnClocks_26 lk_laws_FnClocks_27 lk_laws_FnClocks_28 lk_laws_FnClocks_29 lk_laws_FnClocks_30 lk_laws_FnClocks_31 lk_laws_FnClocks_32 lk_laws_FnClocks_33 lk_laws_FnClocks_34 lk_laws_FnClocks_35 lk_laws_FnClocks_36 lk_laws_FnClocks_37 lk_laws_FnClocks_38 lk_laws_FnClocks_39 lk_laws_FnClocks_40 lk_laws_FnClocks_41 lk_laws_FnClocks_42 lk_laws_FnClocks_43
set_option maxHeartbeats 8000000 in
theorem Fs_laws_FnClocks {code : List UInt8} {y_ : Bool} (h : laws_FnClocks code = some y_) : c_laws_FnClocks.F [.sl 1 (List.map byteAV code)] = ⟨true, .bool y_, [.any]⟩ := by
  refine mkF_E rfl ?_
  dsimp only [laws_FnClocks] at h
  obtain ⟨y_1, hk1, h⟩ := bd_some h
  have fhk1 := Fs_laws_f6big hk1
  try simp only [go_sem] at fhk1
  rcases it_some h with ⟨hk2, h⟩ | ⟨hk2, h⟩
  · try simp only [go_sem, n1, n2, n3, n4] at hk2
    all_goals
    obtain rfl := so_some h
    refine ⟨0, fun L hL => ?_⟩
    simp only [go_sem, ir4, fhk1, hk2]
  · try simp only [go_sem, n1, n2, n3, n4] at hk2
    all_goals
    obtain ⟨y_3, hk3, h⟩ := bd_some h
    have fhk3 := Fs_spec_DrawTimeOf hk3
    try simp only [go_sem, hk2] at fhk3
    obtain ⟨y_4, hk4, h⟩ := bd_some h
    have fhk4 := Fs_impl_TimeOf hk4
    try simp only [go_sem, hk2] at fhk4
    obtain ⟨y_5, hk5, h⟩ := bd_some h
    have fhk5 := Fs_spec_TimeOf hk5
    try simp only [go_sem, hk2] at fhk5
    obtain ⟨y_6, hk6, h⟩ := bd_some h
    have fhk6 := Fs_spec_DrawClockOf hk6
    try simp only [go_sem, hk2] at fhk6
    obtain ⟨y_7, hk7, h⟩ := bd_some h
    have fhk7 := Fs_impl_ClockOf hk7
    try simp only [go_sem, hk2] at fhk7
    obtain ⟨y_8, hk8, h⟩ := bd_some h
    have fhk8 := Fs_spec_ClockOf hk8
    try simp only [go_sem, hk2] at fhk8
    obtain ⟨y_9, hk9, h⟩ := bd_some h
    have fhk9 := Fs_spec_DrawDayOf hk9
    try simp only [go_sem, hk2] at fhk9
    obtain ⟨y_10, hk10, h⟩ := bd_some h
    have fhk10 := Fs_impl_DayOf hk10
    try simp only [go_sem, hk2] at fhk10
    obtain ⟨y_11, hk11, h⟩ := bd_some h
    have fhk11 := Fs_spec_DayOf hk11
    try simp only [go_sem, hk2] at fhk11
    obtain ⟨y_12, hk12, h⟩ := bd_some h
    have fhk12 := Fs_spec_DrawHoursBetween hk12
    try simp only [go_sem, hk2] at fhk12
    obtain ⟨y_13, hk13, h⟩ := bd_some h
    have fhk13 := Fs_impl_HoursBetween hk13
    try simp only [go_sem, hk2] at fhk13
    obtain ⟨y_14, hk14, h⟩ := bd_some h
    have fhk14 := Fs_spec_HoursBetween hk14
    try simp only [go_sem, hk2] at fhk14
    obtain ⟨y_15, hk15, h⟩ := bd_some h
    have fhk15 := Fs_impl_HoursBetween hk15
    try simp only [go_sem, hk2] at fhk15
    obtain ⟨y_16, hk16, h⟩ := bd_some h
    have fhk16 := Fs_spec_DrawTimeText hk16
    try simp only [go_sem, hk2] at fhk16
    obtain ⟨y_17, hk17, h⟩ := bd_some h
    have fhk17 := Fs_impl_TimeText hk17
    try simp only [go_sem, hk2] at fhk17
    obtain ⟨y_18, hk18, h⟩ := bd_some h
    have fhk18 := Fs_impl_ReadTime hk18
    try simp only [go_sem, hk2] at fhk18
    obtain ⟨y_19, hk19, h⟩ := bd_some h
    have fhk19 := Fs_spec_DrawReadTime hk19
    try simp only [go_sem, hk2] at fhk19
    obtain ⟨y_20, hk20, h⟩ := bd_some h
    have fhk20 := Fs_impl_ReadTime hk20
    try simp only [go_sem, hk2] at fhk20
    obtain ⟨y_21, hk21, h⟩ := bd_some h
    have fhk21 := Fs_spec_ReadTime hk21
    try simp only [go_sem, hk2] at fhk21
    obtain ⟨hk22, h⟩ := ck_some h
    rcases or_split hk22 with ⟨ghk22, hk22⟩ | ghk22
    · try simp only [go_sem, n1, n2, n3, n4, hk2] at ghk22
      all_goals
      obtain ⟨y_22, hhk22⟩ := Option.isSome_iff_exists.1 hk22
      have fhk22 := Fs_spec_TimeText hhk22
      try simp only [go_sem, n1, n2, n3, n4, hk2, ghk22] at hhk22
      all_goals
      try simp only [go_sem, hk2, ghk22] at fhk22
      obtain ⟨hk23, h⟩ := ck_some h
      rcases or_split hk23 with ⟨ghk23, hk23⟩ | ghk23
      · try simp only [go_sem, n1, n2, n3, n4, hk2, ghk22, hhk22] at ghk23
        all_goals
        obtain ⟨y_23, hhk23⟩ := Option.isSome_iff_exists.1 hk23
        have fhk23 := Fs_impl_ValidTime hhk23
        try simp only [go_sem, n1, n2, n3, n4, hk2, ghk22, hhk22, ghk23] at hhk23
        all_goals
        try simp only [go_sem, hk2, ghk22, hhk22, ghk23] at fhk23
        obtain ⟨hk24, h⟩ := ck_some h
        rcases or_split hk24 with ⟨ghk24, hk24⟩ | ghk24
        · try simp only [go_sem, n1, n2, n3, n4, hk2, ghk22, hhk22, ghk23, hhk23] at ghk24
          all_goals
          obtain ⟨y_24, hhk24⟩ := Option.isSome_iff_exists.1 hk24
          have fhk24 := Fs_spec_ValidTime hhk24
          try simp only [go_sem, n1, n2, n3, n4, hk2, ghk22, hhk22, ghk23, hhk23, ghk24] at hhk24
          all_goals
          try simp only [go_sem, hk2, ghk22, hhk22, ghk23, hhk23, ghk24] at fhk24
          rcases it_some h with ⟨hk25, h⟩ | ⟨hk25, h⟩
          · try simp only [go_sem, n1, n2, n3, n4, hk2, ghk22, hhk22, ghk23, hhk23, ghk24, hhk24] at hk25
            all_goals
            obtain rfl := so_some h
            refine ⟨0, fun L hL => ?_⟩
            simp only [go_sem, ir4, fhk1, hk2, fhk3, fhk4, fhk5, fhk6, fhk7, fhk8, fhk9, fhk10, fhk11, fhk12, fhk13, fhk14, fhk15, fhk16, fhk17, fhk18, fhk19, fhk20, fhk21, ghk22, hhk22, fhk22, ghk23, hhk23, fhk23, ghk24, hhk24, fhk24, hk25]
          · try simp only [go_sem, n1, n2, n3, n4, hk2, ghk22, hhk22, ghk23, hhk23, ghk24, hhk24] at hk25
            all_goals
            rcases it_some h with ⟨hk26, h⟩ | ⟨hk26, h⟩
            · try simp only [go_sem, n1, n2, n3, n4, hk2, ghk22, hhk22, ghk23, hhk23, ghk24, hhk24, hk25] at hk26
              all_goals
              obtain rfl := so_some h
              refine ⟨0, fun L hL => ?_⟩
              simp only [go_sem, ir4, fhk1, hk2, fhk3, fhk4, fhk5, fhk6, fhk7, fhk8, fhk9, fhk10, fhk11, fhk12, fhk13, fhk14, fhk15, fhk16, fhk17, fhk18, fhk19, fhk20, fhk21, ghk22, hhk22, fhk22, ghk23, hhk23, fhk23, ghk24, hhk24, fhk24, hk25, hk26]
            · try simp only [go_sem, n1, n2, n3, n4, hk2, ghk22, hhk22, ghk23, hhk23, ghk24, hhk24, hk25] at hk26
              all_goals
              rcases it_some h with ⟨hk27, h⟩ | ⟨hk27, h⟩
              · try simp only [go_sem, n1, n2, n3, n4, hk2, ghk22, hhk22, ghk23, hhk23, ghk24, hhk24, hk25, hk26] at hk27
                all_goals
                obtain rfl := so_some h
                refine ⟨0, fun L hL => ?_⟩
                simp only [go_sem, ir4, fhk1, hk2, fhk3, fhk4, fhk5, fhk6, fhk7, fhk8, fhk9, fhk10, fhk11, fhk12, fhk13, fhk14, fhk15, fhk16, fhk17, fhk18, fhk19, fhk20, fhk21, ghk22, hhk22, fhk22, ghk23, hhk23, fhk23, ghk24, hhk24, fhk24, hk25, hk26, hk27]
              · try simp only [go_sem, n1, n2, n3, n4, hk2, ghk22, hhk22, ghk23, hhk23, ghk24, hhk24, hk25, hk26] at hk27
                all_goals
                obtain ⟨y_28, hk28, h⟩ := bd_some h
                have fhk28 := Fs_impl_ClockOf hk28
                try simp only [go_sem, hk2, ghk22, hhk22, ghk23, hhk23, ghk24, hhk24, hk25, hk26, hk27] at fhk28
                obtain ⟨y_29, hk29, h⟩ := bd_some h
                have fhk29 := Fs_impl_DayOf hk29
                try simp only [go_sem, hk2, ghk22, hhk22, ghk23, hhk23, ghk24, hhk24, hk25, hk26, hk27] at fhk29
                rcases it_some h with ⟨hk30, h⟩ | ⟨hk30, h⟩
                · try simp only [go_sem, n1, n2, n3, n4, hk2, ghk22, hhk22, ghk23, hhk23, ghk24, hhk24, hk25, hk26, hk27] at hk30
                  all_goals
                  obtain rfl := so_some h
                  refine ⟨0, fun L hL => ?_⟩
                  simp only [go_sem, ir4, fhk1, hk2, fhk3, fhk4, fhk5, fhk6, fhk7, fhk8, fhk9, fhk10, fhk11, fhk12, fhk13, fhk14, fhk15, fhk16, fhk17, fhk18, fhk19, fhk20, fhk21, ghk22, hhk22, fhk22, ghk23, hhk23, fhk23, ghk24, hhk24, fhk24, hk25, hk26, hk27, fhk28, fhk29, hk30]
                · try simp only [go_sem, n1, n2, n3, n4, hk2, ghk22, hhk22, ghk23, hhk23, ghk24, hhk24, hk25, hk26, hk27] at hk30
                  all_goals
                  obtain ⟨hk31, h⟩ := ck_some h
                  try simp only [go_sem, n1, n2, n3, n4, hk2, ghk22, hhk22, ghk23, hhk23, ghk24, hhk24, hk25, hk26, hk27, hk30] at hk31
                  all_goals
                  rcases it_some h with ⟨hk32, h⟩ | ⟨hk32, h⟩
                  · try simp only [go_sem, n1, n2, n3, n4, hk2, ghk22, hhk22, ghk23, hhk23, ghk24, hhk24, hk25, hk26, hk27, hk30, hk31] at hk32
                    all_goals
                    obtain rfl := so_some h
                    refine ⟨0, fun L hL => ?_⟩
                    simp only [go_sem, ir4, fhk1, hk2, fhk3, fhk4, fhk5, fhk6, fhk7, fhk8, fhk9, fhk10, fhk11, fhk12, fhk13, fhk14, fhk15, fhk16, fhk17, fhk18, fhk19, fhk20, fhk21, ghk22, hhk22, fhk22, ghk23, hhk23, fhk23, ghk24, hhk24, fhk24, hk25, hk26, hk27, fhk28, fhk29, hk30, hk31, hk32]
                  · try simp only [go_sem, n1, n2, n3, n4, hk2, ghk22, hhk22, ghk23, hhk23, ghk24, hhk24, hk25, hk26, hk27, hk30, hk31] at hk32
                    all_goals
                    obtain ⟨y_33, hk33, h⟩ := bd_some h
                    have fhk33 := Fs_impl_ClockOf hk33
                    try simp only [go_sem, hk2, ghk22, hhk22, ghk23, hhk23, ghk24, hhk24, hk25, hk26, hk27, hk30, hk31, hk32] at fhk33
                    obtain rfl := so_some h
                    refine ⟨0, fun L hL => ?_⟩
                    simp only [go_sem, ir4, fhk1, hk2, fhk3, fhk4, fhk5, fhk6, fhk7, fhk8, fhk9, fhk10, fhk11, fhk12, fhk13, fhk14, fhk15, fhk16, fhk17, fhk18, fhk19, fhk20, fhk21, ghk22, hhk22, fhk22, ghk23, hhk23, fhk23, ghk24, hhk24, fhk24, hk25, hk26, hk27, fhk28, fhk29, hk30, hk31, hk32, fhk33]
        · have ghk24n := no_f ghk24
          rcases or_t ghk24n with ghk24na | ⟨ghk24na, ghk24nb⟩
          · try simp only [go_sem, n1, n2, n3, n4, hk2, ghk22, hhk22, ghk23, hhk23] at ghk24na
            all_goals
            (simp_all)
          · obtain ⟨ghk24naa, ghk24nab⟩ := or_f ghk24na
            obtain ⟨ghk24naaa, ghk24naab⟩ := or_f ghk24naa
            obtain ⟨ghk24naaaa, ghk24naaab⟩ := or_f ghk24naaa
            obtain ⟨ghk24naaaaa, ghk24naaaab⟩ := or_f ghk24naaaa
            obtain ⟨ghk24naaaaaa, ghk24naaaaab⟩ := or_f ghk24naaaaa
            obtain ⟨ghk24naaaaaaa, ghk24naaaaaab⟩ := or_f ghk24naaaaaa
            obtain ⟨ghk24naaaaaaaa, ghk24naaaaaaab⟩ := or_f ghk24naaaaaaa
            obtain ⟨ghk24naaaaaaaaa, ghk24naaaaaaaab⟩ := or_f ghk24naaaaaaaa
            obtain ⟨ghk24naaaaaaaaaa, ghk24naaaaaaaaab⟩ := or_f ghk24naaaaaaaaa
            obtain ⟨ghk24naaaaaaaaaaa, ghk24naaaaaaaaaab⟩ := or_f ghk24naaaaaaaaaa
            obtain ⟨ghk24naaaaaaaaaaaa, ghk24naaaaaaaaaaab⟩ := or_f ghk24naaaaaaaaaaa
            obtain ⟨ghk24naaaaaaaaaaaaa, ghk24naaaaaaaaaaaab⟩ := or_f ghk24naaaaaaaaaaaa
            obtain ⟨ghk24naaaaaaaaaaaaaa, ghk24naaaaaaaaaaaaab⟩ := or_f ghk24naaaaaaaaaaaaa
            have ghk24naaaaaaaaaaaaaan := no_f ghk24naaaaaaaaaaaaaa
            have ghk24naaaaaaaaaaaaabn := no_f ghk24naaaaaaaaaaaaab
            have ghk24naaaaaaaaaaaabn := no_f ghk24naaaaaaaaaaaab
            have ghk24naaaaaaaaaaabn := no_f ghk24naaaaaaaaaaab
            have ghk24naaaaaaaaaabn := no_f ghk24naaaaaaaaaab
            have ghk24naaaaaaaaabn := no_f ghk24naaaaaaaaab
            have ghk24naaaaaaaabn := no_f ghk24naaaaaaaab
            have ghk24naaaaaaabn := no_f ghk24naaaaaaab
            have ghk24naaaaaabn := no_f ghk24naaaaaab
            obtain ⟨ghk24naaaaaabna, ghk24naaaaaabnb⟩ := and_t ghk24naaaaaabn
            have ghk24naaaaabn := no_f ghk24naaaaab
            have ghk24naaaabn := no_f ghk24naaaab
            have ghk24naaabn := no_f ghk24naaab
            rcases and_f ghk24naab with ghk24naaba | ⟨ghk24naaba, ghk24naabb⟩
            · have ghk24nabn := no_f ghk24nab
              have ghk24nbn := no_t ghk24nb
              try simp only [go_sem, n1, n2, n3, n4, hk2, ghk22, hhk22, ghk23, hhk23] at ghk24naaaaaaaaaaaaaan
              all_goals
              try simp only [go_sem, n1, n2, n3, n4, hk2, ghk22, hhk22, ghk23, hhk23, ghk24naaaaaaaaaaaaaan] at ghk24naaaaaaaaaaaaabn
              all_goals
              try simp only [go_sem, n1, n2, n3, n4, hk2, ghk22, hhk22, ghk23, hhk23, ghk24naaaaaaaaaaaaaan, ghk24naaaaaaaaaaaaabn] at ghk24naaaaaaaaaaaabn
              all_goals
              try simp only [go_sem, n1, n2, n3, n4, hk2, ghk22, hhk22, ghk23, hhk23, ghk24naaaaaaaaaaaaaan, ghk24naaaaaaaaaaaaabn, ghk24naaaaaaaaaaaabn] at ghk24naaaaaaaaaaabn
              all_goals
              try simp only [go_sem, n1, n2, n3, n4, hk2, ghk22, hhk22, ghk23, hhk23, ghk24naaaaaaaaaaaaaan, ghk24naaaaaaaaaaaaabn, ghk24naaaaaaaaaaaabn, ghk24naaaaaaaaaaabn] at ghk24naaaaaaaaaabn
              all_goals
              try simp only [go_sem, n1, n2, n3, n4, hk2, ghk22, hhk22, ghk23, hhk23, ghk24naaaaaaaaaaaaaan, ghk24naaaaaaaaaaaaabn, ghk24naaaaaaaaaaaabn, ghk24naaaaaaaaaaabn, ghk24naaaaaaaaaabn] at ghk24naaaaaaaaabn
              all_goals
              try simp only [go_sem, n1, n2, n3, n4, hk2, ghk22, hhk22, ghk23, hhk23, ghk24naaaaaaaaaaaaaan, ghk24naaaaaaaaaaaaabn, ghk24naaaaaaaaaaaabn, ghk24naaaaaaaaaaabn, ghk24naaaaaaaaaabn, ghk24naaaaaaaaabn] at ghk24naaaaaaaabn
              all_goals
              try simp only [go_sem, n1, n2, n3, n4, hk2, ghk22, hhk22, ghk23, hhk23, ghk24naaaaaaaaaaaaaan, ghk24naaaaaaaaaaaaabn, ghk24naaaaaaaaaaaabn, ghk24naaaaaaaaaaabn, ghk24naaaaaaaaaabn, ghk24naaaaaaaaabn, ghk24naaaaaaaabn] at ghk24naaaaaaabn
              all_goals
              try simp only [go_sem, n1, n2, n3, n4, hk2, ghk22, hhk22, ghk23, hhk23, ghk24naaaaaaaaaaaaaan, ghk24naaaaaaaaaaaaabn, ghk24naaaaaaaaaaaabn, ghk24naaaaaaaaaaabn, ghk24naaaaaaaaaabn, ghk24naaaaaaaaabn, ghk24naaaaaaaabn, ghk24naaaaaaabn] at ghk24naaaaaabna
              all_goals
              try simp only [go_sem, n1, n2, n3, n4, hk2, ghk22, hhk22, ghk23, hhk23, ghk24naaaaaaaaaaaaaan, ghk24naaaaaaaaaaaaabn, ghk24naaaaaaaaaaaabn, ghk24naaaaaaaaaaabn, ghk24naaaaaaaaaabn, ghk24naaaaaaaaabn, ghk24naaaaaaaabn, ghk24naaaaaaabn, ghk24naaaaaabna] at ghk24naaaaaabnb
              all_goals
              try simp only [go_sem, n1, n2, n3, n4, hk2, ghk22, hhk22, ghk23, hhk23, ghk24naaaaaaaaaaaaaan, ghk24naaaaaaaaaaaaabn, ghk24naaaaaaaaaaaabn, ghk24naaaaaaaaaaabn, ghk24naaaaaaaaaabn, ghk24naaaaaaaaabn, ghk24naaaaaaaabn, ghk24naaaaaaabn, ghk24naaaaaabna, ghk24naaaaaabnb] at ghk24naaaaabn
              all_goals
              try simp only [go_sem, n1, n2, n3, n4, hk2, ghk22, hhk22, ghk23, hhk23, ghk24naaaaaaaaaaaaaan, ghk24naaaaaaaaaaaaabn, ghk24naaaaaaaaaaaabn, ghk24naaaaaaaaaaabn, ghk24naaaaaaaaaabn, ghk24naaaaaaaaabn, ghk24naaaaaaaabn, ghk24naaaaaaabn, ghk24naaaaaabna, ghk24naaaaaabnb, ghk24naaaaabn] at ghk24naaaabn
              all_goals
              try simp only [go_sem, n1, n2, n3, n4, hk2, ghk22, hhk22, ghk23, hhk23, ghk24naaaaaaaaaaaaaan, ghk24naaaaaaaaaaaaabn, ghk24naaaaaaaaaaaabn, ghk24naaaaaaaaaaabn, ghk24naaaaaaaaaabn, ghk24naaaaaaaaabn, ghk24naaaaaaaabn, ghk24naaaaaaabn, ghk24naaaaaabna, ghk24naaaaaabnb, ghk24naaaaabn, ghk24naaaabn] at ghk24naaabn
              all_goals
              try simp only [go_sem, n1, n2, n3, n4, hk2, ghk22, hhk22, ghk23, hhk23, ghk24naaaaaaaaaaaaaan, ghk24naaaaaaaaaaaaabn, ghk24naaaaaaaaaaaabn, ghk24naaaaaaaaaaabn, ghk24naaaaaaaaaabn, ghk24naaaaaaaaabn, ghk24naaaaaaaabn, ghk24naaaaaaabn, ghk24naaaaaabna, ghk24naaaaaabnb, ghk24naaaaabn, ghk24naaaabn, ghk24naaabn] at ghk24naaba
              all_goals
              try simp only [go_sem, n1, n2, n3, n4, hk2, ghk22, hhk22, ghk23, hhk23, ghk24naaaaaaaaaaaaaan, ghk24naaaaaaaaaaaaabn, ghk24naaaaaaaaaaaabn, ghk24naaaaaaaaaaabn, ghk24naaaaaaaaaabn, ghk24naaaaaaaaabn, ghk24naaaaaaaabn, ghk24naaaaaaabn, ghk24naaaaaabna, ghk24naaaaaabnb, ghk24naaaaabn, ghk24naaaabn, ghk24naaabn, ghk24naaba] at ghk24nabn
              all_goals
              try simp only [go_sem, n1, n2, n3, n4, hk2, ghk22, hhk22, ghk23, hhk23, ghk24naaaaaaaaaaaaaan, ghk24naaaaaaaaaaaaabn, ghk24naaaaaaaaaaaabn, ghk24naaaaaaaaaaabn, ghk24naaaaaaaaaabn, ghk24naaaaaaaaabn, ghk24naaaaaaaabn, ghk24naaaaaaabn, ghk24naaaaaabna, ghk24naaaaaabnb, ghk24naaaaabn, ghk24naaaabn, ghk24naaabn, ghk24naaba, ghk24nabn] at ghk24nbn
              all_goals
              rcases it_some h with ⟨hk25, h⟩ | ⟨hk25, h⟩
              · try simp only [go_sem, n1, n2, n3, n4, hk2, ghk22, hhk22, ghk23, hhk23, ghk24naaaaaaaaaaaaaan, ghk24naaaaaaaaaaaaabn, ghk24naaaaaaaaaaaabn, ghk24naaaaaaaaaaabn, ghk24naaaaaaaaaabn, ghk24naaaaaaaaabn, ghk24naaaaaaaabn, ghk24naaaaaaabn, ghk24naaaaaabna, ghk24naaaaaabnb, ghk24naaaaabn, ghk24naaaabn, ghk24naaabn, ghk24naaba, ghk24nabn, ghk24nbn] at hk25
                all_goals
                obtain rfl := so_some h
                refine ⟨0, fun L hL => ?_⟩
                simp only [go_sem, ir4, fhk1, hk2, fhk3, fhk4, fhk5, fhk6, fhk7, fhk8, fhk9, fhk10, fhk11, fhk12, fhk13, fhk14, fhk15, fhk16, fhk17, fhk18, fhk19, fhk20, fhk21, ghk22, hhk22, fhk22, ghk23, hhk23, fhk23, ghk24naaaaaaaaaaaaaan, ghk24naaaaaaaaaaaaabn, ghk24naaaaaaaaaaaabn, ghk24naaaaaaaaaaabn, ghk24naaaaaaaaaabn, ghk24naaaaaaaaabn, ghk24naaaaaaaabn, ghk24naaaaaaabn, ghk24naaaaaabna, ghk24naaaaaabnb, ghk24naaaaabn, ghk24naaaabn, ghk24naaabn, ghk24naaba, ghk24nabn, ghk24nbn, hk25]
              · try simp only [go_sem, n1, n2, n3, n4, hk2, ghk22, hhk22, ghk23, hhk23, ghk24naaaaaaaaaaaaaan, ghk24naaaaaaaaaaaaabn, ghk24naaaaaaaaaaaabn, ghk24naaaaaaaaaaabn, ghk24naaaaaaaaaabn, ghk24naaaaaaaaabn, ghk24naaaaaaaabn, ghk24naaaaaaabn, ghk24naaaaaabna, ghk24naaaaaabnb, ghk24naaaaabn, ghk24naaaabn, ghk24naaabn, ghk24naaba, ghk24nabn, ghk24nbn] at hk25
                all_goals
                rcases it_some h with ⟨hk26, h⟩ | ⟨hk26, h⟩
                · try simp only [go_sem, n1, n2, n3, n4, hk2, ghk22, hhk22, ghk23, hhk23, ghk24naaaaaaaaaaaaaan, ghk24naaaaaaaaaaaaabn, ghk24naaaaaaaaaaaabn, ghk24naaaaaaaaaaabn, ghk24naaaaaaaaaabn, ghk24naaaaaaaaabn, ghk24naaaaaaaabn, ghk24naaaaaaabn, ghk24naaaaaabna, ghk24naaaaaabnb, ghk24naaaaabn, ghk24naaaabn, ghk24naaabn, ghk24naaba, ghk24nabn, ghk24nbn, hk25] at hk26
                  all_goals
                  obtain rfl := so_some h
                  refine ⟨0, fun L hL => ?_⟩
                  simp only [go_sem, ir4, fhk1, hk2, fhk3, fhk4, fhk5, fhk6, fhk7, fhk8, fhk9, fhk10, fhk11, fhk12, fhk13, fhk14, fhk15, fhk16, fhk17, fhk18, fhk19, fhk20, fhk21, ghk22, hhk22, fhk22, ghk23, hhk23, fhk23, ghk24naaaaaaaaaaaaaan, ghk24naaaaaaaaaaaaabn, ghk24naaaaaaaaaaaabn, ghk24naaaaaaaaaaabn, ghk24naaaaaaaaaabn, ghk24naaaaaaaaabn, ghk24naaaaaaaabn, ghk24naaaaaaabn, ghk24naaaaaabna, ghk24naaaaaabnb, ghk24naaaaabn, ghk24naaaabn, ghk24naaabn, ghk24naaba, ghk24nabn, ghk24nbn, hk25, hk26]
                · try simp only [go_sem, n1, n2, n3, n4, hk2, ghk22, hhk22, ghk23, hhk23, ghk24naaaaaaaaaaaaaan, ghk24naaaaaaaaaaaaabn, ghk24naaaaaaaaaaaabn, ghk24naaaaaaaaaaabn, ghk24naaaaaaaaaabn, ghk24naaaaaaaaabn, ghk24naaaaaaaabn, ghk24naaaaaaabn, ghk24naaaaaabna, ghk24naaaaaabnb, ghk24naaaaabn, ghk24naaaabn, ghk24naaabn, ghk24naaba, ghk24nabn, ghk24nbn, hk25] at hk26
                  all_goals
                  rcases it_some h with ⟨hk27, h⟩ | ⟨hk27, h⟩
                  · try simp only [go_sem, n1, n2, n3, n4, hk2, ghk22, hhk22, ghk23, hhk23, ghk24naaaaaaaaaaaaaan, ghk24naaaaaaaaaaaaabn, ghk24naaaaaaaaaaaabn, ghk24naaaaaaaaaaabn, ghk24naaaaaaaaaabn, ghk24naaaaaaaaabn, ghk24naaaaaaaabn, ghk24naaaaaaabn, ghk24naaaaaabna, ghk24naaaaaabnb, ghk24naaaaabn, ghk24naaaabn, ghk24naaabn, ghk24naaba, ghk24nabn, ghk24nbn, hk25, hk26] at hk27
                    all_goals
                    obtain rfl := so_some h
                    refine ⟨0, fun L hL => ?_⟩
                    simp only [go_sem, ir4, fhk1, hk2, fhk3, fhk4, fhk5, fhk6, fhk7, fhk8, fhk9, fhk10, fhk11, fhk12, fhk13, fhk14, fhk15, fhk16, fhk17, fhk18, fhk19, fhk20, fhk21, ghk22, hhk22, fhk22, ghk23, hhk23, fhk23, ghk24naaaaaaaaaaaaaan, ghk24naaaaaaaaaaaaabn, ghk24naaaaaaaaaaaabn, ghk24naaaaaaaaaaabn, ghk24naaaaaaaaaabn, ghk24naaaaaaaaabn, ghk24naaaaaaaabn, ghk24naaaaaaabn, ghk24naaaaaabna, ghk24naaaaaabnb, ghk24naaaaabn, ghk24naaaabn, ghk24naaabn, ghk24naaba, ghk24nabn, ghk24nbn, hk25, hk26, hk27]
                  · try simp only [go_sem, n1, n2, n3, n4, hk2, ghk22, hhk22, ghk23, hhk23, ghk24naaaaaaaaaaaaaan, ghk24naaaaaaaaaaaaabn, ghk24naaaaaaaaaaaabn, ghk24naaaaaaaaaaabn, ghk24naaaaaaaaaabn, ghk24naaaaaaaaabn, ghk24naaaaaaaabn, ghk24naaaaaaabn, ghk24naaaaaabna, ghk24naaaaaabnb, ghk24naaaaabn, ghk24naaaabn, ghk24naaabn, ghk24naaba, ghk24nabn, ghk24nbn, hk25, hk26] at hk27
                    all_goals
                    obtain ⟨y_28, hk28, h⟩ := bd_some h
                    have fhk28 := Fs_impl_ClockOf hk28
                    try simp only [go_sem, hk2, ghk22, hhk22, ghk23, hhk23, ghk24naaaaaaaaaaaaaan, ghk24naaaaaaaaaaaaabn, ghk24naaaaaaaaaaaabn, ghk24naaaaaaaaaaabn, ghk24naaaaaaaaaabn, ghk24naaaaaaaaabn, ghk24naaaaaaaabn, ghk24naaaaaaabn, ghk24naaaaaabna, ghk24naaaaaabnb, ghk24naaaaabn, ghk24naaaabn, ghk24naaabn, ghk24naaba, ghk24nabn, ghk24nbn, hk25, hk26, hk27] at fhk28
                    obtain ⟨y_29, hk29, h⟩ := bd_some h
                    have fhk29 := Fs_impl_DayOf hk29
                    try simp only [go_sem, hk2, ghk22, hhk22, ghk23, hhk23, ghk24naaaaaaaaaaaaaan, ghk24naaaaaaaaaaaaabn, ghk24naaaaaaaaaaaabn, ghk24naaaaaaaaaaabn, ghk24naaaaaaaaaabn, ghk24naaaaaaaaabn, ghk24naaaaaaaabn, ghk24naaaaaaabn, ghk24naaaaaabna, ghk24naaaaaabnb, ghk24naaaaabn, ghk24naaaabn, ghk24naaabn, ghk24naaba, ghk24nabn, ghk24nbn, hk25, hk26, hk27] at fhk29
                    rcases it_some h with ⟨hk30, h⟩ | ⟨hk30, h⟩
                    · try simp only [go_sem, n1, n2, n3, n4, hk2, ghk22, hhk22, ghk23, hhk23, ghk24naaaaaaaaaaaaaan, ghk24naaaaaaaaaaaaabn, ghk24naaaaaaaaaaaabn, ghk24naaaaaaaaaaabn, ghk24naaaaaaaaaabn, ghk24naaaaaaaaabn, ghk24naaaaaaaabn, ghk24naaaaaaabn, ghk24naaaaaabna, ghk24naaaaaabnb, ghk24naaaaabn, ghk24naaaabn, ghk24naaabn, ghk24naaba, ghk24nabn, ghk24nbn, hk25, hk26, hk27] at hk30
                      all_goals
                      obtain rfl := so_some h
                      refine ⟨0, fun L hL => ?_⟩
                      simp only [go_sem, ir4, fhk1, hk2, fhk3, fhk4, fhk5, fhk6, fhk7, fhk8, fhk9, fhk10, fhk11, fhk12, fhk13, fhk14, fhk15, fhk16, fhk17, fhk18, fhk19, fhk20, fhk21, ghk22, hhk22, fhk22, ghk23, hhk23, fhk23, ghk24naaaaaaaaaaaaaan, ghk24naaaaaaaaaaaaabn, ghk24naaaaaaaaaaaabn, ghk24naaaaaaaaaaabn, ghk24naaaaaaaaaabn, ghk24naaaaaaaaabn, ghk24naaaaaaaabn, ghk24naaaaaaabn, ghk24naaaaaabna, ghk24naaaaaabnb, ghk24naaaaabn, ghk24naaaabn, ghk24naaabn, ghk24naaba, ghk24nabn, ghk24nbn, hk25, hk26, hk27, fhk28, fhk29, hk30]
                    · try simp only [go_sem, n1, n2, n3, n4, hk2, ghk22, hhk22, ghk23, hhk23, ghk24naaaaaaaaaaaaaan, ghk24naaaaaaaaaaaaabn, ghk24naaaaaaaaaaaabn, ghk24naaaaaaaaaaabn, ghk24naaaaaaaaaabn, ghk24naaaaaaaaabn, ghk24naaaaaaaabn, ghk24naaaaaaabn, ghk24naaaaaabna, ghk24naaaaaabnb, ghk24naaaaabn, ghk24naaaabn, ghk24naaabn, ghk24naaba, ghk24nabn, ghk24nbn, hk25, hk26, hk27] at hk30
                      all_goals
                      obtain ⟨hk31, h⟩ := ck_some h
                      try simp only [go_sem, n1, n2, n3, n4, hk2, ghk22, hhk22, ghk23, hhk23, ghk24naaaaaaaaaaaaaan, ghk24naaaaaaaaaaaaabn, ghk24naaaaaaaaaaaabn, ghk24naaaaaaaaaaabn, ghk24naaaaaaaaaabn, ghk24naaaaaaaaabn, ghk24naaaaaaaabn, ghk24naaaaaaabn, ghk24naaaaaabna, ghk24naaaaaabnb, ghk24naaaaabn, ghk24naaaabn, ghk24naaabn, ghk24naaba, ghk24nabn, ghk24nbn, hk25, hk26, hk27, hk30] at hk31
                      all_goals
                      rcases it_some h with ⟨hk32, h⟩ | ⟨hk32, h⟩
                      · try simp only [go_sem, n1, n2, n3, n4, hk2, ghk22, hhk22, ghk23, hhk23, ghk24naaaaaaaaaaaaaan, ghk24naaaaaaaaaaaaabn, ghk24naaaaaaaaaaaabn, ghk24naaaaaaaaaaabn, ghk24naaaaaaaaaabn, ghk24naaaaaaaaabn, ghk24naaaaaaaabn, ghk24naaaaaaabn, ghk24naaaaaabna, ghk24naaaaaabnb, ghk24naaaaabn, ghk24naaaabn, ghk24naaabn, ghk24naaba, ghk24nabn, ghk24nbn, hk25, hk26, hk27, hk30, hk31] at hk32
                        all_goals
                        obtain rfl := so_some h
                        refine ⟨0, fun L hL => ?_⟩
                        simp only [go_sem, ir4, fhk1, hk2, fhk3, fhk4, fhk5, fhk6, fhk7, fhk8, fhk9, fhk10, fhk11, fhk12, fhk13, fhk14, fhk15, fhk16, fhk17, fhk18, fhk19, fhk20, fhk21, ghk22, hhk22, fhk22, ghk23, hhk23, fhk23, ghk24naaaaaaaaaaaaaan, ghk24naaaaaaaaaaaaabn, ghk24naaaaaaaaaaaabn, ghk24naaaaaaaaaaabn, ghk24naaaaaaaaaabn, ghk24naaaaaaaaabn, ghk24naaaaaaaabn, ghk24naaaaaaabn, ghk24naaaaaabna, ghk24naaaaaabnb, ghk24naaaaabn, ghk24naaaabn, ghk24naaabn, ghk24naaba, ghk24nabn, ghk24nbn, hk25, hk26, hk27, fhk28, fhk29, hk30, hk31, hk32]
                      · try simp only [go_sem, n1, n2, n3, n4, hk2, ghk22, hhk22, ghk23, hhk23, ghk24naaaaaaaaaaaaaan, ghk24naaaaaaaaaaaaabn, ghk24naaaaaaaaaaaabn, ghk24naaaaaaaaaaabn, ghk24naaaaaaaaaabn, ghk24naaaaaaaaabn, ghk24naaaaaaaabn, ghk24naaaaaaabn, ghk24naaaaaabna, ghk24naaaaaabnb, ghk24naaaaabn, ghk24naaaabn, ghk24naaabn, ghk24naaba, ghk24nabn, ghk24nbn, hk25, hk26, hk27, hk30, hk31] at hk32
                        all_goals
                        obtain ⟨y_33, hk33, h⟩ := bd_some h
                        have fhk33 := Fs_impl_ClockOf hk33
                        try simp only [go_sem, hk2, ghk22, hhk22, ghk23, hhk23, ghk24naaaaaaaaaaaaaan, ghk24naaaaaaaaaaaaabn, ghk24naaaaaaaaaaaabn, ghk24naaaaaaaaaaabn, ghk24naaaaaaaaaabn, ghk24naaaaaaaaabn, ghk24naaaaaaaabn, ghk24naaaaaaabn, ghk24naaaaaabna, ghk24naaaaaabnb, ghk24naaaaabn, ghk24naaaabn, ghk24naaabn, ghk24naaba, ghk24nabn, ghk24nbn, hk25, hk26, hk27, hk30, hk31, hk32] at fhk33
                        obtain rfl := so_some h
                        refine ⟨0, fun L hL => ?_⟩
                        simp only [go_sem, ir4, fhk1, hk2, fhk3, fhk4, fhk5, fhk6, fhk7, fhk8, fhk9, fhk10, fhk11, fhk12, fhk13, fhk14, fhk15, fhk16, fhk17, fhk18, fhk19, fhk20, fhk21, ghk22, hhk22, fhk22, ghk23, hhk23, fhk23, ghk24naaaaaaaaaaaaaan, ghk24naaaaaaaaaaaaabn, ghk24naaaaaaaaaaaabn, ghk24naaaaaaaaaaabn, ghk24naaaaaaaaaabn, ghk24naaaaaaaaabn, ghk24naaaaaaaabn, ghk24naaaaaaabn, ghk24naaaaaabna, ghk24naaaaaabnb, ghk24naaaaabn, ghk24naaaabn, ghk24naaabn, ghk24naaba, ghk24nabn, ghk24nbn, hk25, hk26, hk27, fhk28, fhk29, hk30, hk31, hk32, fhk33]
            · have ghk24naabbn := no_f ghk24naabb
              have ghk24nabn := no_f ghk24nab
              have ghk24nbn := no_t ghk24nb
              try simp only [go_sem, n1, n2, n3, n4, hk2, ghk22, hhk22, ghk23, hhk23] at ghk24naaaaaaaaaaaaaan
              all_goals
              try simp only [go_sem, n1, n2, n3, n4, hk2, ghk22, hhk22, ghk23, hhk23, ghk24naaaaaaaaaaaaaan] at ghk24naaaaaaaaaaaaabn
              all_goals
              try simp only [go_sem, n1, n2, n3, n4, hk2, ghk22, hhk22, ghk23, hhk23, ghk24naaaaaaaaaaaaaan, ghk24naaaaaaaaaaaaabn] at ghk24naaaaaaaaaaaabn
              all_goals
              try simp only [go_sem, n1, n2, n3, n4, hk2, ghk22, hhk22, ghk23, hhk23, ghk24naaaaaaaaaaaaaan, ghk24naaaaaaaaaaaaabn, ghk24naaaaaaaaaaaabn] at ghk24naaaaaaaaaaabn
              all_goals
              try simp only [go_sem, n1, n2, n3, n4, hk2, ghk22, hhk22, ghk23, hhk23, ghk24naaaaaaaaaaaaaan, ghk24naaaaaaaaaaaaabn, ghk24naaaaaaaaaaaabn, ghk24naaaaaaaaaaabn] at ghk24naaaaaaaaaabn
              all_goals
              try simp only [go_sem, n1, n2, n3, n4, hk2, ghk22, hhk22, ghk23, hhk23, ghk24naaaaaaaaaaaaaan, ghk24naaaaaaaaaaaaabn, ghk24naaaaaaaaaaaabn, ghk24naaaaaaaaaaabn, ghk24naaaaaaaaaabn] at ghk24naaaaaaaaabn
              all_goals
              try simp only [go_sem, n1, n2, n3, n4, hk2, ghk22, hhk22, ghk23, hhk23, ghk24naaaaaaaaaaaaaan, ghk24naaaaaaaaaaaaabn, ghk24naaaaaaaaaaaabn, ghk24naaaaaaaaaaabn, ghk24naaaaaaaaaabn, ghk24naaaaaaaaabn] at ghk24naaaaaaaabn
              all_goals
              try simp only [go_sem, n1, n2, n3, n4, hk2, ghk22, hhk22, ghk23, hhk23, ghk24naaaaaaaaaaaaaan, ghk24naaaaaaaaaaaaabn, ghk24naaaaaaaaaaaabn, ghk24naaaaaaaaaaabn, ghk24naaaaaaaaaabn, ghk24naaaaaaaaabn, ghk24naaaaaaaabn] at ghk24naaaaaaabn
              all_goals
              try simp only [go_sem, n1, n2, n3, n4, hk2, ghk22, hhk22, ghk23, hhk23, ghk24naaaaaaaaaaaaaan, ghk24naaaaaaaaaaaaabn, ghk24naaaaaaaaaaaabn, ghk24naaaaaaaaaaabn, ghk24naaaaaaaaaabn, ghk24naaaaaaaaabn, ghk24naaaaaaaabn, ghk24naaaaaaabn] at ghk24naaaaaabna
              all_goals
              try simp only [go_sem, n1, n2, n3, n4, hk2, ghk22, hhk22, ghk23, hhk23, ghk24naaaaaaaaaaaaaan, ghk24naaaaaaaaaaaaabn, ghk24naaaaaaaaaaaabn, ghk24naaaaaaaaaaabn, ghk24naaaaaaaaaabn, ghk24naaaaaaaaabn, ghk24naaaaaaaabn, ghk24naaaaaaabn, ghk24naaaaaabna] at ghk24naaaaaabnb
              all_goals
              try simp only [go_sem, n1, n2, n3, n4, hk2, ghk22, hhk22, ghk23, hhk23, ghk24naaaaaaaaaaaaaan, ghk24naaaaaaaaaaaaabn, ghk24naaaaaaaaaaaabn, ghk24naaaaaaaaaaabn, ghk24naaaaaaaaaabn, ghk24naaaaaaaaabn, ghk24naaaaaaaabn, ghk24naaaaaaabn, ghk24naaaaaabna, ghk24naaaaaabnb] at ghk24naaaaabn
              all_goals
              try simp only [go_sem, n1, n2, n3, n4, hk2, ghk22, hhk22, ghk23, hhk23, ghk24naaaaaaaaaaaaaan, ghk24naaaaaaaaaaaaabn, ghk24naaaaaaaaaaaabn, ghk24naaaaaaaaaaabn, ghk24naaaaaaaaaabn, ghk24naaaaaaaaabn, ghk24naaaaaaaabn, ghk24naaaaaaabn, ghk24naaaaaabna, ghk24naaaaaabnb, ghk24naaaaabn] at ghk24naaaabn
              all_goals
              try simp only [go_sem, n1, n2, n3, n4, hk2, ghk22, hhk22, ghk23, hhk23, ghk24naaaaaaaaaaaaaan, ghk24naaaaaaaaaaaaabn, ghk24naaaaaaaaaaaabn, ghk24naaaaaaaaaaabn, ghk24naaaaaaaaaabn, ghk24naaaaaaaaabn, ghk24naaaaaaaabn, ghk24naaaaaaabn, ghk24naaaaaabna, ghk24naaaaaabnb, ghk24naaaaabn, ghk24naaaabn] at ghk24naaabn
              all_goals
              try simp only [go_sem, n1, n2, n3, n4, hk2, ghk22, hhk22, ghk23, hhk23, ghk24naaaaaaaaaaaaaan, ghk24naaaaaaaaaaaaabn, ghk24naaaaaaaaaaaabn, ghk24naaaaaaaaaaabn, ghk24naaaaaaaaaabn, ghk24naaaaaaaaabn, ghk24naaaaaaaabn, ghk24naaaaaaabn, ghk24naaaaaabna, ghk24naaaaaabnb, ghk24naaaaabn, ghk24naaaabn, ghk24naaabn] at ghk24naaba
              all_goals
              try simp only [go_sem, n1, n2, n3, n4, hk2, ghk22, hhk22, ghk23, hhk23, ghk24naaaaaaaaaaaaaan, ghk24naaaaaaaaaaaaabn, ghk24naaaaaaaaaaaabn, ghk24naaaaaaaaaaabn, ghk24naaaaaaaaaabn, ghk24naaaaaaaaabn, ghk24naaaaaaaabn, ghk24naaaaaaabn, ghk24naaaaaabna, ghk24naaaaaabnb, ghk24naaaaabn, ghk24naaaabn, ghk24naaabn, ghk24naaba] at ghk24naabbn
              all_goals
              try simp only [go_sem, n1, n2, n3, n4, hk2, ghk22, hhk22, ghk23, hhk23, ghk24naaaaaaaaaaaaaan, ghk24naaaaaaaaaaaaabn, ghk24naaaaaaaaaaaabn, ghk24naaaaaaaaaaabn, ghk24naaaaaaaaaabn, ghk24naaaaaaaaabn, ghk24naaaaaaaabn, ghk24naaaaaaabn, ghk24naaaaaabna, ghk24naaaaaabnb, ghk24naaaaabn, ghk24naaaabn, ghk24naaabn, ghk24naaba, ghk24naabbn] at ghk24nabn
              all_goals
              try simp only [go_sem, n1, n2, n3, n4, hk2, ghk22, hhk22, ghk23, hhk23, ghk24naaaaaaaaaaaaaan, ghk24naaaaaaaaaaaaabn, ghk24naaaaaaaaaaaabn, ghk24naaaaaaaaaaabn, ghk24naaaaaaaaaabn, ghk24naaaaaaaaabn, ghk24naaaaaaaabn, ghk24naaaaaaabn, ghk24naaaaaabna, ghk24naaaaaabnb, ghk24naaaaabn, ghk24naaaabn, ghk24naaabn, ghk24naaba, ghk24naabbn, ghk24nabn] at ghk24nbn
              all_goals
              rcases it_some h with ⟨hk25, h⟩ | ⟨hk25, h⟩
              · try simp only [go_sem, n1, n2, n3, n4, hk2, ghk22, hhk22, ghk23, hhk23, ghk24naaaaaaaaaaaaaan, ghk24naaaaaaaaaaaaabn, ghk24naaaaaaaaaaaabn, ghk24naaaaaaaaaaabn, ghk24naaaaaaaaaabn, ghk24naaaaaaaaabn, ghk24naaaaaaaabn, ghk24naaaaaaabn, ghk24naaaaaabna, ghk24naaaaaabnb, ghk24naaaaabn, ghk24naaaabn, ghk24naaabn, ghk24naaba, ghk24naabbn, ghk24nabn, ghk24nbn] at hk25
                all_goals
                obtain rfl := so_some h
                refine ⟨0, fun L hL => ?_⟩
                simp only [go_sem, ir4, fhk1, hk2, fhk3, fhk4, fhk5, fhk6, fhk7, fhk8, fhk9, fhk10, fhk11, fhk12, fhk13, fhk14, fhk15, fhk16, fhk17, fhk18, fhk19, fhk20, fhk21, ghk22, hhk22, fhk22, ghk23, hhk23, fhk23, ghk24naaaaaaaaaaaaaan, ghk24naaaaaaaaaaaaabn, ghk24naaaaaaaaaaaabn, ghk24naaaaaaaaaaabn, ghk24naaaaaaaaaabn, ghk24naaaaaaaaabn, ghk24naaaaaaaabn, ghk24naaaaaaabn, ghk24naaaaaabna, ghk24naaaaaabnb, ghk24naaaaabn, ghk24naaaabn, ghk24naaabn, ghk24naaba, ghk24naabbn, ghk24nabn, ghk24nbn, hk25]
              · try simp only [go_sem, n1, n2, n3, n4, hk2, ghk22, hhk22, ghk23, hhk23, ghk24naaaaaaaaaaaaaan, ghk24naaaaaaaaaaaaabn, ghk24naaaaaaaaaaaabn, ghk24naaaaaaaaaaabn, ghk24naaaaaaaaaabn, ghk24naaaaaaaaabn, ghk24naaaaaaaabn, ghk24naaaaaaabn, ghk24naaaaaabna, ghk24naaaaaabnb, ghk24naaaaabn, ghk24naaaabn, ghk24naaabn, ghk24naaba, ghk24naabbn, ghk24nabn, ghk24nbn] at hk25
                all_goals
                rcases it_some h with ⟨hk26, h⟩ | ⟨hk26, h⟩
                · try simp only [go_sem, n1, n2, n3, n4, hk2, ghk22, hhk22, ghk23, hhk23, ghk24naaaaaaaaaaaaaan, ghk24naaaaaaaaaaaaabn, ghk24naaaaaaaaaaaabn, ghk24naaaaaaaaaaabn, ghk24naaaaaaaaaabn, ghk24naaaaaaaaabn, ghk24naaaaaaaabn, ghk24naaaaaaabn, ghk24naaaaaabna, ghk24naaaaaabnb, ghk24naaaaabn, ghk24naaaabn, ghk24naaabn, ghk24naaba, ghk24naabbn, ghk24nabn, ghk24nbn, hk25] at hk26
                  all_goals
                  obtain rfl := so_some h
                  refine ⟨0, fun L hL => ?_⟩
                  simp only [go_sem, ir4, fhk1, hk2, fhk3, fhk4, fhk5, fhk6, fhk7, fhk8, fhk9, fhk10, fhk11, fhk12, fhk13, fhk14, fhk15, fhk16, fhk17, fhk18, fhk19, fhk20, fhk21, ghk22, hhk22, fhk22, ghk23, hhk23, fhk23, ghk24naaaaaaaaaaaaaan, ghk24naaaaaaaaaaaaabn, ghk24naaaaaaaaaaaabn, ghk24naaaaaaaaaaabn, ghk24naaaaaaaaaabn, ghk24naaaaaaaaabn, ghk24naaaaaaaabn, ghk24naaaaaaabn, ghk24naaaaaabna, ghk24naaaaaabnb, ghk24naaaaabn, ghk24naaaabn, ghk24naaabn, ghk24naaba, ghk24naabbn, ghk24nabn, ghk24nbn, hk25, hk26]
                · try simp only [go_sem, n1, n2, n3, n4, hk2, ghk22, hhk22, ghk23, hhk23, ghk24naaaaaaaaaaaaaan, ghk24naaaaaaaaaaaaabn, ghk24naaaaaaaaaaaabn, ghk24naaaaaaaaaaabn, ghk24naaaaaaaaaabn, ghk24naaaaaaaaabn, ghk24naaaaaaaabn, ghk24naaaaaaabn, ghk24naaaaaabna, ghk24naaaaaabnb, ghk24naaaaabn, ghk24naaaabn, ghk24naaabn, ghk24naaba, ghk24naabbn, ghk24nabn, ghk24nbn, hk25] at hk26
                  all_goals
                  rcases it_some h with ⟨hk27, h⟩ | ⟨hk27, h⟩
                  · try simp only [go_sem, n1, n2, n3, n4, hk2, ghk22, hhk22, ghk23, hhk23, ghk24naaaaaaaaaaaaaan, ghk24naaaaaaaaaaaaabn, ghk24naaaaaaaaaaaabn, ghk24naaaaaaaaaaabn, ghk24naaaaaaaaaabn, ghk24naaaaaaaaabn, ghk24naaaaaaaabn, ghk24naaaaaaabn, ghk24naaaaaabna, ghk24naaaaaabnb, ghk24naaaaabn, ghk24naaaabn, ghk24naaabn, ghk24naaba, ghk24naabbn, ghk24nabn, ghk24nbn, hk25, hk26] at hk27
                    all_goals
                    obtain rfl := so_some h
                    refine ⟨0, fun L hL => ?_⟩
                    simp only [go_sem, ir4, fhk1, hk2, fhk3, fhk4, fhk5, fhk6, fhk7, fhk8, fhk9, fhk10, fhk11, fhk12, fhk13, fhk14, fhk15, fhk16, fhk17, fhk18, fhk19, fhk20, fhk21, ghk22, hhk22, fhk22, ghk23, hhk23, fhk23, ghk24naaaaaaaaaaaaaan, ghk24naaaaaaaaaaaaabn, ghk24naaaaaaaaaaaabn, ghk24naaaaaaaaaaabn, ghk24naaaaaaaaaabn, ghk24naaaaaaaaabn, ghk24naaaaaaaabn, ghk24naaaaaaabn, ghk24naaaaaabna, ghk24naaaaaabnb, ghk24naaaaabn, ghk24naaaabn, ghk24naaabn, ghk24naaba, ghk24naabbn, ghk24nabn, ghk24nbn, hk25, hk26, hk27]
                  · try simp only [go_sem, n1, n2, n3, n4, hk2, ghk22, hhk22, ghk23, hhk23, ghk24naaaaaaaaaaaaaan, ghk24naaaaaaaaaaaaabn, ghk24naaaaaaaaaaaabn, ghk24naaaaaaaaaaabn, ghk24naaaaaaaaaabn, ghk24naaaaaaaaabn, ghk24naaaaaaaabn, ghk24naaaaaaabn, ghk24naaaaaabna, ghk24naaaaaabnb, ghk24naaaaabn, ghk24naaaabn, ghk24naaabn, ghk24naaba, ghk24naabbn, ghk24nabn, ghk24nbn, hk25, hk26] at hk27
                    all_goals
                    obtain ⟨y_28, hk28, h⟩ := bd_some h
                    have fhk28 := Fs_impl_ClockOf hk28
                    try simp only [go_sem, hk2, ghk22, hhk22, ghk23, hhk23, ghk24naaaaaaaaaaaaaan, ghk24naaaaaaaaaaaaabn, ghk24naaaaaaaaaaaabn, ghk24naaaaaaaaaaabn, ghk24naaaaaaaaaabn, ghk24naaaaaaaaabn, ghk24naaaaaaaabn, ghk24naaaaaaabn, ghk24naaaaaabna, ghk24naaaaaabnb, ghk24naaaaabn, ghk24naaaabn, ghk24naaabn, ghk24naaba, ghk24naabbn, ghk24nabn, ghk24nbn, hk25, hk26, hk27] at fhk28
                    obtain ⟨y_29, hk29, h⟩ := bd_some h
                    have fhk29 := Fs_impl_DayOf hk29
                    try simp only [go_sem, hk2, ghk22, hhk22, ghk23, hhk23, ghk24naaaaaaaaaaaaaan, ghk24naaaaaaaaaaaaabn, ghk24naaaaaaaaaaaabn, ghk24naaaaaaaaaaabn, ghk24naaaaaaaaaabn, ghk24naaaaaaaaabn, ghk24naaaaaaaabn, ghk24naaaaaaabn, ghk24naaaaaabna, ghk24naaaaaabnb, ghk24naaaaabn, ghk24naaaabn, ghk24naaabn, ghk24naaba, ghk24naabbn, ghk24nabn, ghk24nbn, hk25, hk26, hk27] at fhk29
                    rcases it_some h with ⟨hk30, h⟩ | ⟨hk30, h⟩
                    · try simp only [go_sem, n1, n2, n3, n4, hk2, ghk22, hhk22, ghk23, hhk23, ghk24naaaaaaaaaaaaaan, ghk24naaaaaaaaaaaaabn, ghk24naaaaaaaaaaaabn, ghk24naaaaaaaaaaabn, ghk24naaaaaaaaaabn, ghk24naaaaaaaaabn, ghk24naaaaaaaabn, ghk24naaaaaaabn, ghk24naaaaaabna, ghk24naaaaaabnb, ghk24naaaaabn, ghk24naaaabn, ghk24naaabn, ghk24naaba, ghk24naabbn, ghk24nabn, ghk24nbn, hk25, hk26, hk27] at hk30
                      all_goals
                      obtain rfl := so_some h
                      refine ⟨0, fun L hL => ?_⟩
                      simp only [go_sem, ir4, fhk1, hk2, fhk3, fhk4, fhk5, fhk6, fhk7, fhk8, fhk9, fhk10, fhk11, fhk12, fhk13, fhk14, fhk15, fhk16, fhk17, fhk18, fhk19, fhk20, fhk21, ghk22, hhk22, fhk22, ghk23, hhk23, fhk23, ghk24naaaaaaaaaaaaaan, ghk24naaaaaaaaaaaaabn, ghk24naaaaaaaaaaaabn, ghk24naaaaaaaaaaabn, ghk24naaaaaaaaaabn, ghk24naaaaaaaaabn, ghk24naaaaaaaabn, ghk24naaaaaaabn, ghk24naaaaaabna, ghk24naaaaaabnb, ghk24naaaaabn, ghk24naaaabn, ghk24naaabn, ghk24naaba, ghk24naabbn, ghk24nabn, ghk24nbn, hk25, hk26, hk27, fhk28, fhk29, hk30]
                    · try simp only [go_sem, n1, n2, n3, n4, hk2, ghk22, hhk22, ghk23, hhk23, ghk24naaaaaaaaaaaaaan, ghk24naaaaaaaaaaaaabn, ghk24naaaaaaaaaaaabn, ghk24naaaaaaaaaaabn, ghk24naaaaaaaaaabn, ghk24naaaaaaaaabn, ghk24naaaaaaaabn, ghk24naaaaaaabn, ghk24naaaaaabna, ghk24naaaaaabnb, ghk24naaaaabn, ghk24naaaabn, ghk24naaabn, ghk24naaba, ghk24naabbn, ghk24nabn, ghk24nbn, hk25, hk26, hk27] at hk30
                      all_goals
                      obtain ⟨hk31, h⟩ := ck_some h
                      try simp only [go_sem, n1, n2, n3, n4, hk2, ghk22, hhk22, ghk23, hhk23, ghk24naaaaaaaaaaaaaan, ghk24naaaaaaaaaaaaabn, ghk24naaaaaaaaaaaabn, ghk24naaaaaaaaaaabn, ghk24naaaaaaaaaabn, ghk24naaaaaaaaabn, ghk24naaaaaaaabn, ghk24naaaaaaabn, ghk24naaaaaabna, ghk24naaaaaabnb, ghk24naaaaabn, ghk24naaaabn, ghk24naaabn, ghk24naaba, ghk24naabbn, ghk24nabn, ghk24nbn, hk25, hk26, hk27, hk30] at hk31
                      all_goals
                      rcases it_some h with ⟨hk32, h⟩ | ⟨hk32, h⟩
                      · try simp only [go_sem, n1, n2, n3, n4, hk2, ghk22, hhk22, ghk23, hhk23, ghk24naaaaaaaaaaaaaan, ghk24naaaaaaaaaaaaabn, ghk24naaaaaaaaaaaabn, ghk24naaaaaaaaaaabn, ghk24naaaaaaaaaabn, ghk24naaaaaaaaabn, ghk24naaaaaaaabn, ghk24naaaaaaabn, ghk24naaaaaabna, ghk24naaaaaabnb, ghk24naaaaabn, ghk24naaaabn, ghk24naaabn, ghk24naaba, ghk24naabbn, ghk24nabn, ghk24nbn, hk25, hk26, hk27, hk30, hk31] at hk32
                        all_goals
                        obtain rfl := so_some h
                        refine ⟨0, fun L hL => ?_⟩
                        simp only [go_sem, ir4, fhk1, hk2, fhk3, fhk4, fhk5, fhk6, fhk7, fhk8, fhk9, fhk10, fhk11, fhk12, fhk13, fhk14, fhk15, fhk16, fhk17, fhk18, fhk19, fhk20, fhk21, ghk22, hhk22, fhk22, ghk23, hhk23, fhk23, ghk24naaaaaaaaaaaaaan, ghk24naaaaaaaaaaaaabn, ghk24naaaaaaaaaaaabn, ghk24naaaaaaaaaaabn, ghk24naaaaaaaaaabn, ghk24naaaaaaaaabn, ghk24naaaaaaaabn, ghk24naaaaaaabn, ghk24naaaaaabna, ghk24naaaaaabnb, ghk24naaaaabn, ghk24naaaabn, ghk24naaabn, ghk24naaba, ghk24naabbn, ghk24nabn, ghk24nbn, hk25, hk26, hk27, fhk28, fhk29, hk30, hk31, hk32]
                      · try simp only [go_sem, n1, n2, n3, n4, hk2, ghk22, hhk22, ghk23, hhk23, ghk24naaaaaaaaaaaaaan, ghk24naaaaaaaaaaaaabn, ghk24naaaaaaaaaaaabn, ghk24naaaaaaaaaaabn, ghk24naaaaaaaaaabn, ghk24naaaaaaaaabn, ghk24naaaaaaaabn, ghk24naaaaaaabn, ghk24naaaaaabna, ghk24naaaaaabnb, ghk24naaaaabn, ghk24naaaabn, ghk24naaabn, ghk24naaba, ghk24naabbn, ghk24nabn, ghk24nbn, hk25, hk26, hk27, hk30, hk31] at hk32
                        all_goals
                        obtain ⟨y_33, hk33, h⟩ := bd_some h
                        have fhk33 := Fs_impl_ClockOf hk33
                        try simp only [go_sem, hk2, ghk22, hhk22, ghk23, hhk23, ghk24naaaaaaaaaaaaaan, ghk24naaaaaaaaaaaaabn, ghk24naaaaaaaaaaaabn, ghk24naaaaaaaaaaabn, ghk24naaaaaaaaaabn, ghk24naaaaaaaaabn, ghk24naaaaaaaabn, ghk24naaaaaaabn, ghk24naaaaaabna, ghk24naaaaaabnb, ghk24naaaaabn, ghk24naaaabn, ghk24naaabn, ghk24naaba, ghk24naabbn, ghk24nabn, ghk24nbn, hk25, hk26, hk27, hk30, hk31, hk32] at fhk33
                        obtain rfl := so_some h
                        refine ⟨0, fun L hL => ?_⟩
                        simp only [go_sem, ir4, fhk1, hk2, fhk3, fhk4, fhk5, fhk6, fhk7, fhk8, fhk9, fhk10, fhk11, fhk12, fhk13, fhk14, fhk15, fhk16, fhk17, fhk18, fhk19, fhk20, fhk21, ghk22, hhk22, fhk22, ghk23, hhk23, fhk23, ghk24naaaaaaaaaaaaaan, ghk24naaaaaaaaaaaaabn, ghk24naaaaaaaaaaaabn, ghk24naaaaaaaaaaabn, ghk24naaaaaaaaaabn, ghk24naaaaaaaaabn, ghk24naaaaaaaabn, ghk24naaaaaaabn, ghk24naaaaaabna, ghk24naaaaaabnb, ghk24naaaaabn, ghk24naaaabn, ghk24naaabn, ghk24naaba, ghk24naabbn, ghk24nabn, ghk24nbn, hk25, hk26, hk27, fhk28, fhk29, hk30, hk31, hk32, fhk33]
      · have ghk23n := no_f ghk23
        rcases or_t ghk23n with ghk23na | ⟨ghk23na, ghk23nb⟩
        · rcases or_t ghk23na with ghk23naa | ⟨ghk23naa, ghk23nab⟩
          · rcases or_t ghk23naa with ghk23naaa | ⟨ghk23naaa, ghk23naab⟩
            · rcases or_t ghk23naaa with ghk23naaaa | ⟨ghk23naaaa, ghk23naaab⟩
              · rcases or_t ghk23naaaa with ghk23naaaaa | ⟨ghk23naaaaa, ghk23naaaab⟩
                · try simp only [go_sem, n1, n2, n3, n4, hk2, ghk22, hhk22] at ghk23naaaaa
                  all_goals
                  (simp_all)
                · obtain ⟨ghk23naaaaaa, ghk23naaaaab⟩ := or_f ghk23naaaaa
                  obtain ⟨ghk23naaaaaaa, ghk23naaaaaab⟩ := or_f ghk23naaaaaa
                  obtain ⟨ghk23naaaaaaaa, ghk23naaaaaaab⟩ := or_f ghk23naaaaaaa
                  obtain ⟨ghk23naaaaaaaaa, ghk23naaaaaaaab⟩ := or_f ghk23naaaaaaaa
                  obtain ⟨ghk23naaaaaaaaaa, ghk23naaaaaaaaab⟩ := or_f ghk23naaaaaaaaa
                  obtain ⟨ghk23naaaaaaaaaaa, ghk23naaaaaaaaaab⟩ := or_f ghk23naaaaaaaaaa
                  obtain ⟨ghk23naaaaaaaaaaaa, ghk23naaaaaaaaaaab⟩ := or_f ghk23naaaaaaaaaaa
                  obtain ⟨ghk23naaaaaaaaaaaaa, ghk23naaaaaaaaaaaab⟩ := or_f ghk23naaaaaaaaaaaa
                  obtain ⟨ghk23naaaaaaaaaaaaaa, ghk23naaaaaaaaaaaaab⟩ := or_f ghk23naaaaaaaaaaaaa
                  have ghk23naaaaaaaaaaaaaan := no_f ghk23naaaaaaaaaaaaaa
                  have ghk23naaaaaaaaaaaaabn := no_f ghk23naaaaaaaaaaaaab
                  have ghk23naaaaaaaaaaaabn := no_f ghk23naaaaaaaaaaaab
                  have ghk23naaaaaaaaaaabn := no_f ghk23naaaaaaaaaaab
                  have ghk23naaaaaaaaaabn := no_f ghk23naaaaaaaaaab
                  have ghk23naaaaaaaaabn := no_f ghk23naaaaaaaaab
                  have ghk23naaaaaaaabn := no_f ghk23naaaaaaaab
                  have ghk23naaaaaaabn := no_f ghk23naaaaaaab
                  have ghk23naaaaaabn := no_f ghk23naaaaaab
                  obtain ⟨ghk23naaaaaabna, ghk23naaaaaabnb⟩ := and_t ghk23naaaaaabn
                  have ghk23naaaaabn := no_f ghk23naaaaab
                  have ghk23naaaabn := no_t ghk23naaaab
                  try simp only [go_sem, n1, n2, n3, n4, hk2, ghk22, hhk22] at ghk23naaaaaaaaaaaaaan
                  all_goals
                  try simp only [go_sem, n1, n2, n3, n4, hk2, ghk22, hhk22, ghk23naaaaaaaaaaaaaan] at ghk23naaaaaaaaaaaaabn
                  all_goals
                  try simp only [go_sem, n1, n2, n3, n4, hk2, ghk22, hhk22, ghk23naaaaaaaaaaaaaan, ghk23naaaaaaaaaaaaabn] at ghk23naaaaaaaaaaaabn
                  all_goals
                  try simp only [go_sem, n1, n2, n3, n4, hk2, ghk22, hhk22, ghk23naaaaaaaaaaaaaan, ghk23naaaaaaaaaaaaabn, ghk23naaaaaaaaaaaabn] at ghk23naaaaaaaaaaabn
                  all_goals
                  try simp only [go_sem, n1, n2, n3, n4, hk2, ghk22, hhk22, ghk23naaaaaaaaaaaaaan, ghk23naaaaaaaaaaaaabn, ghk23naaaaaaaaaaaabn, ghk23naaaaaaaaaaabn] at ghk23naaaaaaaaaabn
                  all_goals
                  try simp only [go_sem, n1, n2, n3, n4, hk2, ghk22, hhk22, ghk23naaaaaaaaaaaaaan, ghk23naaaaaaaaaaaaabn, ghk23naaaaaaaaaaaabn, ghk23naaaaaaaaaaabn, ghk23naaaaaaaaaabn] at ghk23naaaaaaaaabn
                  all_goals
                  try simp only [go_sem, n1, n2, n3, n4, hk2, ghk22, hhk22, ghk23naaaaaaaaaaaaaan, ghk23naaaaaaaaaaaaabn, ghk23naaaaaaaaaaaabn, ghk23naaaaaaaaaaabn, ghk23naaaaaaaaaabn, ghk23naaaaaaaaabn] at ghk23naaaaaaaabn
                  all_goals
                  try simp only [go_sem, n1, n2, n3, n4, hk2, ghk22, hhk22, ghk23naaaaaaaaaaaaaan, ghk23naaaaaaaaaaaaabn, ghk23naaaaaaaaaaaabn, ghk23naaaaaaaaaaabn, ghk23naaaaaaaaaabn, ghk23naaaaaaaaabn, ghk23naaaaaaaabn] at ghk23naaaaaaabn
                  all_goals
                  try simp only [go_sem, n1, n2, n3, n4, hk2, ghk22, hhk22, ghk23naaaaaaaaaaaaaan, ghk23naaaaaaaaaaaaabn, ghk23naaaaaaaaaaaabn, ghk23naaaaaaaaaaabn, ghk23naaaaaaaaaabn, ghk23naaaaaaaaabn, ghk23naaaaaaaabn, ghk23naaaaaaabn] at ghk23naaaaaabna
                  all_goals
                  try simp only [go_sem, n1, n2, n3, n4, hk2, ghk22, hhk22, ghk23naaaaaaaaaaaaaan, ghk23naaaaaaaaaaaaabn, ghk23naaaaaaaaaaaabn, ghk23naaaaaaaaaaabn, ghk23naaaaaaaaaabn, ghk23naaaaaaaaabn, ghk23naaaaaaaabn, ghk23naaaaaaabn, ghk23naaaaaabna] at ghk23naaaaaabnb
                  all_goals
                  try simp only [go_sem, n1, n2, n3, n4, hk2, ghk22, hhk22, ghk23naaaaaaaaaaaaaan, ghk23naaaaaaaaaaaaabn, ghk23naaaaaaaaaaaabn, ghk23naaaaaaaaaaabn, ghk23naaaaaaaaaabn, ghk23naaaaaaaaabn, ghk23naaaaaaaabn, ghk23naaaaaaabn, ghk23naaaaaabna, ghk23naaaaaabnb] at ghk23naaaaabn
                  all_goals
                  try simp only [go_sem, n1, n2, n3, n4, hk2, ghk22, hhk22, ghk23naaaaaaaaaaaaaan, ghk23naaaaaaaaaaaaabn, ghk23naaaaaaaaaaaabn, ghk23naaaaaaaaaaabn, ghk23naaaaaaaaaabn, ghk23naaaaaaaaabn, ghk23naaaaaaaabn, ghk23naaaaaaabn, ghk23naaaaaabna, ghk23naaaaaabnb, ghk23naaaaabn] at ghk23naaaabn
                  all_goals
                  obtain ⟨hk24, h⟩ := ck_some h
                  rcases it_some h with ⟨hk25, h⟩ | ⟨hk25, h⟩
                  · try simp only [go_sem, n1, n2, n3, n4, hk2, ghk22, hhk22, ghk23naaaaaaaaaaaaaan, ghk23naaaaaaaaaaaaabn, ghk23naaaaaaaaaaaabn, ghk23naaaaaaaaaaabn, ghk23naaaaaaaaaabn, ghk23naaaaaaaaabn, ghk23naaaaaaaabn, ghk23naaaaaaabn, ghk23naaaaaabna, ghk23naaaaaabnb, ghk23naaaaabn, ghk23naaaabn] at hk25
                    all_goals
                    obtain rfl := so_some h
                    refine ⟨0, fun L hL => ?_⟩
                    simp only [go_sem, ir4, fhk1, hk2, fhk3, fhk4, fhk5, fhk6, fhk7, fhk8, fhk9, fhk10, fhk11, fhk12, fhk13, fhk14, fhk15, fhk16, fhk17, fhk18, fhk19, fhk20, fhk21, ghk22, hhk22, fhk22, ghk23naaaaaaaaaaaaaan, ghk23naaaaaaaaaaaaabn, ghk23naaaaaaaaaaaabn, ghk23naaaaaaaaaaabn, ghk23naaaaaaaaaabn, ghk23naaaaaaaaabn, ghk23naaaaaaaabn, ghk23naaaaaaabn, ghk23naaaaaabna, ghk23naaaaaabnb, ghk23naaaaabn, ghk23naaaabn, hk25]
                  · try simp only [go_sem, n1, n2, n3, n4, hk2, ghk22, hhk22, ghk23naaaaaaaaaaaaaan, ghk23naaaaaaaaaaaaabn, ghk23naaaaaaaaaaaabn, ghk23naaaaaaaaaaabn, ghk23naaaaaaaaaabn, ghk23naaaaaaaaabn, ghk23naaaaaaaabn, ghk23naaaaaaabn, ghk23naaaaaabna, ghk23naaaaaabnb, ghk23naaaaabn, ghk23naaaabn] at hk25
                    all_goals
                    (simp_all)
              · obtain ⟨ghk23naaaaa, ghk23naaaab⟩ := or_f ghk23naaaa
                obtain ⟨ghk23naaaaaa, ghk23naaaaab⟩ := or_f ghk23naaaaa
                obtain ⟨ghk23naaaaaaa, ghk23naaaaaab⟩ := or_f ghk23naaaaaa
                obtain ⟨ghk23naaaaaaaa, ghk23naaaaaaab⟩ := or_f ghk23naaaaaaa
                obtain ⟨ghk23naaaaaaaaa, ghk23naaaaaaaab⟩ := or_f ghk23naaaaaaaa
                obtain ⟨ghk23naaaaaaaaaa, ghk23naaaaaaaaab⟩ := or_f ghk23naaaaaaaaa
                obtain ⟨ghk23naaaaaaaaaaa, ghk23naaaaaaaaaab⟩ := or_f ghk23naaaaaaaaaa
                obtain ⟨ghk23naaaaaaaaaaaa, ghk23naaaaaaaaaaab⟩ := or_f ghk23naaaaaaaaaaa
                obtain ⟨ghk23naaaaaaaaaaaaa, ghk23naaaaaaaaaaaab⟩ := or_f ghk23naaaaaaaaaaaa
                obtain ⟨ghk23naaaaaaaaaaaaaa, ghk23naaaaaaaaaaaaab⟩ := or_f ghk23naaaaaaaaaaaaa
                have ghk23naaaaaaaaaaaaaan := no_f ghk23naaaaaaaaaaaaaa
                have ghk23naaaaaaaaaaaaabn := no_f ghk23naaaaaaaaaaaaab
                have ghk23naaaaaaaaaaaabn := no_f ghk23naaaaaaaaaaaab
                have ghk23naaaaaaaaaaabn := no_f ghk23naaaaaaaaaaab
                have ghk23naaaaaaaaaabn := no_f ghk23naaaaaaaaaab
                have ghk23naaaaaaaaabn := no_f ghk23naaaaaaaaab
                have ghk23naaaaaaaabn := no_f ghk23naaaaaaaab
                have ghk23naaaaaaabn := no_f ghk23naaaaaaab
                have ghk23naaaaaabn := no_f ghk23naaaaaab
                obtain ⟨ghk23naaaaaabna, ghk23naaaaaabnb⟩ := and_t ghk23naaaaaabn
                have ghk23naaaaabn := no_f ghk23naaaaab
                have ghk23naaaabn := no_f ghk23naaaab
                have ghk23naaabn := no_t ghk23naaab
                try simp only [go_sem, n1, n2, n3, n4, hk2, ghk22, hhk22] at ghk23naaaaaaaaaaaaaan
                all_goals
                try simp only [go_sem, n1, n2, n3, n4, hk2, ghk22, hhk22, ghk23naaaaaaaaaaaaaan] at ghk23naaaaaaaaaaaaabn
                all_goals
                try simp only [go_sem, n1, n2, n3, n4, hk2, ghk22, hhk22, ghk23naaaaaaaaaaaaaan, ghk23naaaaaaaaaaaaabn] at ghk23naaaaaaaaaaaabn
                all_goals
                try simp only [go_sem, n1, n2, n3, n4, hk2, ghk22, hhk22, ghk23naaaaaaaaaaaaaan, ghk23naaaaaaaaaaaaabn, ghk23naaaaaaaaaaaabn] at ghk23naaaaaaaaaaabn
                all_goals
                try simp only [go_sem, n1, n2, n3, n4, hk2, ghk22, hhk22, ghk23naaaaaaaaaaaaaan, ghk23naaaaaaaaaaaaabn, ghk23naaaaaaaaaaaabn, ghk23naaaaaaaaaaabn] at ghk23naaaaaaaaaabn
                all_goals
                try simp only [go_sem, n1, n2, n3, n4, hk2, ghk22, hhk22, ghk23naaaaaaaaaaaaaan, ghk23naaaaaaaaaaaaabn, ghk23naaaaaaaaaaaabn, ghk23naaaaaaaaaaabn, ghk23naaaaaaaaaabn] at ghk23naaaaaaaaabn
                all_goals
                try simp only [go_sem, n1, n2, n3, n4, hk2, ghk22, hhk22, ghk23naaaaaaaaaaaaaan, ghk23naaaaaaaaaaaaabn, ghk23naaaaaaaaaaaabn, ghk23naaaaaaaaaaabn, ghk23naaaaaaaaaabn, ghk23naaaaaaaaabn] at ghk23naaaaaaaabn
                all_goals
                try simp only [go_sem, n1, n2, n3, n4, hk2, ghk22, hhk22, ghk23naaaaaaaaaaaaaan, ghk23naaaaaaaaaaaaabn, ghk23naaaaaaaaaaaabn, ghk23naaaaaaaaaaabn, ghk23naaaaaaaaaabn, ghk23naaaaaaaaabn, ghk23naaaaaaaabn] at ghk23naaaaaaabn
                all_goals
                try simp only [go_sem, n1, n2, n3, n4, hk2, ghk22, hhk22, ghk23naaaaaaaaaaaaaan, ghk23naaaaaaaaaaaaabn, ghk23naaaaaaaaaaaabn, ghk23naaaaaaaaaaabn, ghk23naaaaaaaaaabn, ghk23naaaaaaaaabn, ghk23naaaaaaaabn, ghk23naaaaaaabn] at ghk23naaaaaabna
                all_goals
                try simp only [go_sem, n1, n2, n3, n4, hk2, ghk22, hhk22, ghk23naaaaaaaaaaaaaan, ghk23naaaaaaaaaaaaabn, ghk23naaaaaaaaaaaabn, ghk23naaaaaaaaaaabn, ghk23naaaaaaaaaabn, ghk23naaaaaaaaabn, ghk23naaaaaaaabn, ghk23naaaaaaabn, ghk23naaaaaabna] at ghk23naaaaaabnb
                all_goals
                try simp only [go_sem, n1, n2, n3, n4, hk2, ghk22, hhk22, ghk23naaaaaaaaaaaaaan, ghk23naaaaaaaaaaaaabn, ghk23naaaaaaaaaaaabn, ghk23naaaaaaaaaaabn, ghk23naaaaaaaaaabn, ghk23naaaaaaaaabn, ghk23naaaaaaaabn, ghk23naaaaaaabn, ghk23naaaaaabna, ghk23naaaaaabnb] at ghk23naaaaabn
                all_goals
                try simp only [go_sem, n1, n2, n3, n4, hk2, ghk22, hhk22, ghk23naaaaaaaaaaaaaan, ghk23naaaaaaaaaaaaabn, ghk23naaaaaaaaaaaabn, ghk23naaaaaaaaaaabn, ghk23naaaaaaaaaabn, ghk23naaaaaaaaabn, ghk23naaaaaaaabn, ghk23naaaaaaabn, ghk23naaaaaabna, ghk23naaaaaabnb, ghk23naaaaabn] at ghk23naaaabn
                all_goals
                try simp only [go_sem, n1, n2, n3, n4, hk2, ghk22, hhk22, ghk23naaaaaaaaaaaaaan, ghk23naaaaaaaaaaaaabn, ghk23naaaaaaaaaaaabn, ghk23naaaaaaaaaaabn, ghk23naaaaaaaaaabn, ghk23naaaaaaaaabn, ghk23naaaaaaaabn, ghk23naaaaaaabn, ghk23naaaaaabna, ghk23naaaaaabnb, ghk23naaaaabn, ghk23naaaabn] at ghk23naaabn
                all_goals
                obtain ⟨hk24, h⟩ := ck_some h
                rcases it_some h with ⟨hk25, h⟩ | ⟨hk25, h⟩
                · try simp only [go_sem, n1, n2, n3, n4, hk2, ghk22, hhk22, ghk23naaaaaaaaaaaaaan, ghk23naaaaaaaaaaaaabn, ghk23naaaaaaaaaaaabn, ghk23naaaaaaaaaaabn, ghk23naaaaaaaaaabn, ghk23naaaaaaaaabn, ghk23naaaaaaaabn, ghk23naaaaaaabn, ghk23naaaaaabna, ghk23naaaaaabnb, ghk23naaaaabn, ghk23naaaabn, ghk23naaabn] at hk25
                  all_goals
                  obtain rfl := so_some h
                  refine ⟨0, fun L hL => ?_⟩
                  simp only [go_sem, ir4, fhk1, hk2, fhk3, fhk4, fhk5, fhk6, fhk7, fhk8, fhk9, fhk10, fhk11, fhk12, fhk13, fhk14, fhk15, fhk16, fhk17, fhk18, fhk19, fhk20, fhk21, ghk22, hhk22, fhk22, ghk23naaaaaaaaaaaaaan, ghk23naaaaaaaaaaaaabn, ghk23naaaaaaaaaaaabn, ghk23naaaaaaaaaaabn, ghk23naaaaaaaaaabn, ghk23naaaaaaaaabn, ghk23naaaaaaaabn, ghk23naaaaaaabn, ghk23naaaaaabna, ghk23naaaaaabnb, ghk23naaaaabn, ghk23naaaabn, ghk23naaabn, hk25]
                · try simp only [go_sem, n1, n2, n3, n4, hk2, ghk22, hhk22, ghk23naaaaaaaaaaaaaan, ghk23naaaaaaaaaaaaabn, ghk23naaaaaaaaaaaabn, ghk23naaaaaaaaaaabn, ghk23naaaaaaaaaabn, ghk23naaaaaaaaabn, ghk23naaaaaaaabn, ghk23naaaaaaabn, ghk23naaaaaabna, ghk23naaaaaabnb, ghk23naaaaabn, ghk23naaaabn, ghk23naaabn] at hk25
                  all_goals
                  (simp_all)
            · obtain ⟨ghk23naaaa, ghk23naaab⟩ := or_f ghk23naaa
              obtain ⟨ghk23naaaaa, ghk23naaaab⟩ := or_f ghk23naaaa
              obtain ⟨ghk23naaaaaa, ghk23naaaaab⟩ := or_f ghk23naaaaa
              obtain ⟨ghk23naaaaaaa, ghk23naaaaaab⟩ := or_f ghk23naaaaaa
              obtain ⟨ghk23naaaaaaaa, ghk23naaaaaaab⟩ := or_f ghk23naaaaaaa
              obtain ⟨ghk23naaaaaaaaa, ghk23naaaaaaaab⟩ := or_f ghk23naaaaaaaa
              obtain ⟨ghk23naaaaaaaaaa, ghk23naaaaaaaaab⟩ := or_f ghk23naaaaaaaaa
              obtain ⟨ghk23naaaaaaaaaaa, ghk23naaaaaaaaaab⟩ := or_f ghk23naaaaaaaaaa
              obtain ⟨ghk23naaaaaaaaaaaa, ghk23naaaaaaaaaaab⟩ := or_f ghk23naaaaaaaaaaa
              obtain ⟨ghk23naaaaaaaaaaaaa, ghk23naaaaaaaaaaaab⟩ := or_f ghk23naaaaaaaaaaaa
              obtain ⟨ghk23naaaaaaaaaaaaaa, ghk23naaaaaaaaaaaaab⟩ := or_f ghk23naaaaaaaaaaaaa
              have ghk23naaaaaaaaaaaaaan := no_f ghk23naaaaaaaaaaaaaa
              have ghk23naaaaaaaaaaaaabn := no_f ghk23naaaaaaaaaaaaab
              have ghk23naaaaaaaaaaaabn := no_f ghk23naaaaaaaaaaaab
              have ghk23naaaaaaaaaaabn := no_f ghk23naaaaaaaaaaab
              have ghk23naaaaaaaaaabn := no_f ghk23naaaaaaaaaab
              have ghk23naaaaaaaaabn := no_f ghk23naaaaaaaaab
              have ghk23naaaaaaaabn := no_f ghk23naaaaaaaab
              have ghk23naaaaaaabn := no_f ghk23naaaaaaab
              have ghk23naaaaaabn := no_f ghk23naaaaaab
              obtain ⟨ghk23naaaaaabna, ghk23naaaaaabnb⟩ := and_t ghk23naaaaaabn
              have ghk23naaaaabn := no_f ghk23naaaaab
              have ghk23naaaabn := no_f ghk23naaaab
              have ghk23naaabn := no_f ghk23naaab
              obtain ⟨ghk23naaba, ghk23naabb⟩ := and_t ghk23naab
              have ghk23naabbn := no_t ghk23naabb
              try simp only [go_sem, n1, n2, n3, n4, hk2, ghk22, hhk22] at ghk23naaaaaaaaaaaaaan
              all_goals
              try simp only [go_sem, n1, n2, n3, n4, hk2, ghk22, hhk22, ghk23naaaaaaaaaaaaaan] at ghk23naaaaaaaaaaaaabn
              all_goals
              try simp only [go_sem, n1, n2, n3, n4, hk2, ghk22, hhk22, ghk23naaaaaaaaaaaaaan, ghk23naaaaaaaaaaaaabn] at ghk23naaaaaaaaaaaabn
              all_goals
              try simp only [go_sem, n1, n2, n3, n4, hk2, ghk22, hhk22, ghk23naaaaaaaaaaaaaan, ghk23naaaaaaaaaaaaabn, ghk23naaaaaaaaaaaabn] at ghk23naaaaaaaaaaabn
              all_goals
              try simp only [go_sem, n1, n2, n3, n4, hk2, ghk22, hhk22, ghk23naaaaaaaaaaaaaan, ghk23naaaaaaaaaaaaabn, ghk23naaaaaaaaaaaabn, ghk23naaaaaaaaaaabn] at ghk23naaaaaaaaaabn
              all_goals
              try simp only [go_sem, n1, n2, n3, n4, hk2, ghk22, hhk22, ghk23naaaaaaaaaaaaaan, ghk23naaaaaaaaaaaaabn, ghk23naaaaaaaaaaaabn, ghk23naaaaaaaaaaabn, ghk23naaaaaaaaaabn] at ghk23naaaaaaaaabn
              all_goals
              try simp only [go_sem, n1, n2, n3, n4, hk2, ghk22, hhk22, ghk23naaaaaaaaaaaaaan, ghk23naaaaaaaaaaaaabn, ghk23naaaaaaaaaaaabn, ghk23naaaaaaaaaaabn, ghk23naaaaaaaaaabn, ghk23naaaaaaaaabn] at ghk23naaaaaaaabn
              all_goals
              try simp only [go_sem, n1, n2, n3, n4, hk2, ghk22, hhk22, ghk23naaaaaaaaaaaaaan, ghk23naaaaaaaaaaaaabn, ghk23naaaaaaaaaaaabn, ghk23naaaaaaaaaaabn, ghk23naaaaaaaaaabn, ghk23naaaaaaaaabn, ghk23naaaaaaaabn] at ghk23naaaaaaabn
              all_goals
              try simp only [go_sem, n1, n2, n3, n4, hk2, ghk22, hhk22, ghk23naaaaaaaaaaaaaan, ghk23naaaaaaaaaaaaabn, ghk23naaaaaaaaaaaabn, ghk23naaaaaaaaaaabn, ghk23naaaaaaaaaabn, ghk23naaaaaaaaabn, ghk23naaaaaaaabn, ghk23naaaaaaabn] at ghk23naaaaaabna
              all_goals
              try simp only [go_sem, n1, n2, n3, n4, hk2, ghk22, hhk22, ghk23naaaaaaaaaaaaaan, ghk23naaaaaaaaaaaaabn, ghk23naaaaaaaaaaaabn, ghk23naaaaaaaaaaabn, ghk23naaaaaaaaaabn, ghk23naaaaaaaaabn, ghk23naaaaaaaabn, ghk23naaaaaaabn, ghk23naaaaaabna] at ghk23naaaaaabnb
              all_goals
              try simp only [go_sem, n1, n2, n3, n4, hk2, ghk22, hhk22, ghk23naaaaaaaaaaaaaan, ghk23naaaaaaaaaaaaabn, ghk23naaaaaaaaaaaabn, ghk23naaaaaaaaaaabn, ghk23naaaaaaaaaabn, ghk23naaaaaaaaabn, ghk23naaaaaaaabn, ghk23naaaaaaabn, ghk23naaaaaabna, ghk23naaaaaabnb] at ghk23naaaaabn
              all_goals
              try simp only [go_sem, n1, n2, n3, n4, hk2, ghk22, hhk22, ghk23naaaaaaaaaaaaaan, ghk23naaaaaaaaaaaaabn, ghk23naaaaaaaaaaaabn, ghk23naaaaaaaaaaabn, ghk23naaaaaaaaaabn, ghk23naaaaaaaaabn, ghk23naaaaaaaabn, ghk23naaaaaaabn, ghk23naaaaaabna, ghk23naaaaaabnb, ghk23naaaaabn] at ghk23naaaabn
              all_goals
              try simp only [go_sem, n1, n2, n3, n4, hk2, ghk22, hhk22, ghk23naaaaaaaaaaaaaan, ghk23naaaaaaaaaaaaabn, ghk23naaaaaaaaaaaabn, ghk23naaaaaaaaaaabn, ghk23naaaaaaaaaabn, ghk23naaaaaaaaabn, ghk23naaaaaaaabn, ghk23naaaaaaabn, ghk23naaaaaabna, ghk23naaaaaabnb, ghk23naaaaabn, ghk23naaaabn] at ghk23naaabn
              all_goals
              try simp only [go_sem, n1, n2, n3, n4, hk2, ghk22, hhk22, ghk23naaaaaaaaaaaaaan, ghk23naaaaaaaaaaaaabn, ghk23naaaaaaaaaaaabn, ghk23naaaaaaaaaaabn, ghk23naaaaaaaaaabn, ghk23naaaaaaaaabn, ghk23naaaaaaaabn, ghk23naaaaaaabn, ghk23naaaaaabna, ghk23naaaaaabnb, ghk23naaaaabn, ghk23naaaabn, ghk23naaabn] at ghk23naaba
              all_goals
              try simp only [go_sem, n1, n2, n3, n4, hk2, ghk22, hhk22, ghk23naaaaaaaaaaaaaan, ghk23naaaaaaaaaaaaabn, ghk23naaaaaaaaaaaabn, ghk23naaaaaaaaaaabn, ghk23naaaaaaaaaabn, ghk23naaaaaaaaabn, ghk23naaaaaaaabn, ghk23naaaaaaabn, ghk23naaaaaabna, ghk23naaaaaabnb, ghk23naaaaabn, ghk23naaaabn, ghk23naaabn, ghk23naaba] at ghk23naabbn
              all_goals
              obtain ⟨hk24, h⟩ := ck_some h
              rcases it_some h with ⟨hk25, h⟩ | ⟨hk25, h⟩
              · try simp only [go_sem, n1, n2, n3, n4, hk2, ghk22, hhk22, ghk23naaaaaaaaaaaaaan, ghk23naaaaaaaaaaaaabn, ghk23naaaaaaaaaaaabn, ghk23naaaaaaaaaaabn, ghk23naaaaaaaaaabn, ghk23naaaaaaaaabn, ghk23naaaaaaaabn, ghk23naaaaaaabn, ghk23naaaaaabna, ghk23naaaaaabnb, ghk23naaaaabn, ghk23naaaabn, ghk23naaabn, ghk23naaba, ghk23naabbn] at hk25
                all_goals
                obtain rfl := so_some h
                refine ⟨0, fun L hL => ?_⟩
                simp only [go_sem, ir4, fhk1, hk2, fhk3, fhk4, fhk5, fhk6, fhk7, fhk8, fhk9, fhk10, fhk11, fhk12, fhk13, fhk14, fhk15, fhk16, fhk17, fhk18, fhk19, fhk20, fhk21, ghk22, hhk22, fhk22, ghk23naaaaaaaaaaaaaan, ghk23naaaaaaaaaaaaabn, ghk23naaaaaaaaaaaabn, ghk23naaaaaaaaaaabn, ghk23naaaaaaaaaabn, ghk23naaaaaaaaabn, ghk23naaaaaaaabn, ghk23naaaaaaabn, ghk23naaaaaabna, ghk23naaaaaabnb, ghk23naaaaabn, ghk23naaaabn, ghk23naaabn, ghk23naaba, ghk23naabbn, hk25]
              · try simp only [go_sem, n1, n2, n3, n4, hk2, ghk22, hhk22, ghk23naaaaaaaaaaaaaan, ghk23naaaaaaaaaaaaabn, ghk23naaaaaaaaaaaabn, ghk23naaaaaaaaaaabn, ghk23naaaaaaaaaabn, ghk23naaaaaaaaabn, ghk23naaaaaaaabn, ghk23naaaaaaabn, ghk23naaaaaabna, ghk23naaaaaabnb, ghk23naaaaabn, ghk23naaaabn, ghk23naaabn, ghk23naaba, ghk23naabbn] at hk25
                all_goals
                (simp_all)
          · obtain ⟨ghk23naaa, ghk23naab⟩ := or_f ghk23naa
            obtain ⟨ghk23naaaa, ghk23naaab⟩ := or_f ghk23naaa
            obtain ⟨ghk23naaaaa, ghk23naaaab⟩ := or_f ghk23naaaa
            obtain ⟨ghk23naaaaaa, ghk23naaaaab⟩ := or_f ghk23naaaaa
            obtain ⟨ghk23naaaaaaa, ghk23naaaaaab⟩ := or_f ghk23naaaaaa
            obtain ⟨ghk23naaaaaaaa, ghk23naaaaaaab⟩ := or_f ghk23naaaaaaa
            obtain ⟨ghk23naaaaaaaaa, ghk23naaaaaaaab⟩ := or_f ghk23naaaaaaaa
            obtain ⟨ghk23naaaaaaaaaa, ghk23naaaaaaaaab⟩ := or_f ghk23naaaaaaaaa
            obtain ⟨ghk23naaaaaaaaaaa, ghk23naaaaaaaaaab⟩ := or_f ghk23naaaaaaaaaa
            obtain ⟨ghk23naaaaaaaaaaaa, ghk23naaaaaaaaaaab⟩ := or_f ghk23naaaaaaaaaaa
            obtain ⟨ghk23naaaaaaaaaaaaa, ghk23naaaaaaaaaaaab⟩ := or_f ghk23naaaaaaaaaaaa
            obtain ⟨ghk23naaaaaaaaaaaaaa, ghk23naaaaaaaaaaaaab⟩ := or_f ghk23naaaaaaaaaaaaa
            have ghk23naaaaaaaaaaaaaan := no_f ghk23naaaaaaaaaaaaaa
            have ghk23naaaaaaaaaaaaabn := no_f ghk23naaaaaaaaaaaaab
            have ghk23naaaaaaaaaaaabn := no_f ghk23naaaaaaaaaaaab
            have ghk23naaaaaaaaaaabn := no_f ghk23naaaaaaaaaaab
            have ghk23naaaaaaaaaabn := no_f ghk23naaaaaaaaaab
            have ghk23naaaaaaaaabn := no_f ghk23naaaaaaaaab
            have ghk23naaaaaaaabn := no_f ghk23naaaaaaaab
            have ghk23naaaaaaabn := no_f ghk23naaaaaaab
            have ghk23naaaaaabn := no_f ghk23naaaaaab
            obtain ⟨ghk23naaaaaabna, ghk23naaaaaabnb⟩ := and_t ghk23naaaaaabn
            have ghk23naaaaabn := no_f ghk23naaaaab
            have ghk23naaaabn := no_f ghk23naaaab
            have ghk23naaabn := no_f ghk23naaab
            rcases and_f ghk23naab with ghk23naaba | ⟨ghk23naaba, ghk23naabb⟩
            · have ghk23nabn := no_t ghk23nab
              try simp only [go_sem, n1, n2, n3, n4, hk2, ghk22, hhk22] at ghk23naaaaaaaaaaaaaan
              all_goals
              try simp only [go_sem, n1, n2, n3, n4, hk2, ghk22, hhk22, ghk23naaaaaaaaaaaaaan] at ghk23naaaaaaaaaaaaabn
              all_goals
              try simp only [go_sem, n1, n2, n3, n4, hk2, ghk22, hhk22, ghk23naaaaaaaaaaaaaan, ghk23naaaaaaaaaaaaabn] at ghk23naaaaaaaaaaaabn
              all_goals
              try simp only [go_sem, n1, n2, n3, n4, hk2, ghk22, hhk22, ghk23naaaaaaaaaaaaaan, ghk23naaaaaaaaaaaaabn, ghk23naaaaaaaaaaaabn] at ghk23naaaaaaaaaaabn
              all_goals
              try simp only [go_sem, n1, n2, n3, n4, hk2, ghk22, hhk22, ghk23naaaaaaaaaaaaaan, ghk23naaaaaaaaaaaaabn, ghk23naaaaaaaaaaaabn, ghk23naaaaaaaaaaabn] at ghk23naaaaaaaaaabn
              all_goals
              try simp only [go_sem, n1, n2, n3, n4, hk2, ghk22, hhk22, ghk23naaaaaaaaaaaaaan, ghk23naaaaaaaaaaaaabn, ghk23naaaaaaaaaaaabn, ghk23naaaaaaaaaaabn, ghk23naaaaaaaaaabn] at ghk23naaaaaaaaabn
              all_goals
              try simp only [go_sem, n1, n2, n3, n4, hk2, ghk22, hhk22, ghk23naaaaaaaaaaaaaan, ghk23naaaaaaaaaaaaabn, ghk23naaaaaaaaaaaabn, ghk23naaaaaaaaaaabn, ghk23naaaaaaaaaabn, ghk23naaaaaaaaabn] at ghk23naaaaaaaabn
              all_goals
              try simp only [go_sem, n1, n2, n3, n4, hk2, ghk22, hhk22, ghk23naaaaaaaaaaaaaan, ghk23naaaaaaaaaaaaabn, ghk23naaaaaaaaaaaabn, ghk23naaaaaaaaaaabn, ghk23naaaaaaaaaabn, ghk23naaaaaaaaabn, ghk23naaaaaaaabn] at ghk23naaaaaaabn
              all_goals
              try simp only [go_sem, n1, n2, n3, n4, hk2, ghk22, hhk22, ghk23naaaaaaaaaaaaaan, ghk23naaaaaaaaaaaaabn, ghk23naaaaaaaaaaaabn, ghk23naaaaaaaaaaabn, ghk23naaaaaaaaaabn, ghk23naaaaaaaaabn, ghk23naaaaaaaabn, ghk23naaaaaaabn] at ghk23naaaaaabna
              all_goals
              try simp only [go_sem, n1, n2, n3, n4, hk2, ghk22, hhk22, ghk23naaaaaaaaaaaaaan, ghk23naaaaaaaaaaaaabn, ghk23naaaaaaaaaaaabn, ghk23naaaaaaaaaaabn, ghk23naaaaaaaaaabn, ghk23naaaaaaaaabn, ghk23naaaaaaaabn, ghk23naaaaaaabn, ghk23naaaaaabna] at ghk23naaaaaabnb
              all_goals
              try simp only [go_sem, n1, n2, n3, n4, hk2, ghk22, hhk22, ghk23naaaaaaaaaaaaaan, ghk23naaaaaaaaaaaaabn, ghk23naaaaaaaaaaaabn, ghk23naaaaaaaaaaabn, ghk23naaaaaaaaaabn, ghk23naaaaaaaaabn, ghk23naaaaaaaabn, ghk23naaaaaaabn, ghk23naaaaaabna, ghk23naaaaaabnb] at ghk23naaaaabn
              all_goals
              try simp only [go_sem, n1, n2, n3, n4, hk2, ghk22, hhk22, ghk23naaaaaaaaaaaaaan, ghk23naaaaaaaaaaaaabn, ghk23naaaaaaaaaaaabn, ghk23naaaaaaaaaaabn, ghk23naaaaaaaaaabn, ghk23naaaaaaaaabn, ghk23naaaaaaaabn, ghk23naaaaaaabn, ghk23naaaaaabna, ghk23naaaaaabnb, ghk23naaaaabn] at ghk23naaaabn
              all_goals
              try simp only [go_sem, n1, n2, n3, n4, hk2, ghk22, hhk22, ghk23naaaaaaaaaaaaaan, ghk23naaaaaaaaaaaaabn, ghk23naaaaaaaaaaaabn, ghk23naaaaaaaaaaabn, ghk23naaaaaaaaaabn, ghk23naaaaaaaaabn, ghk23naaaaaaaabn, ghk23naaaaaaabn, ghk23naaaaaabna, ghk23naaaaaabnb, ghk23naaaaabn, ghk23naaaabn] at ghk23naaabn
              all_goals
              try simp only [go_sem, n1, n2, n3, n4, hk2, ghk22, hhk22, ghk23naaaaaaaaaaaaaan, ghk23naaaaaaaaaaaaabn, ghk23naaaaaaaaaaaabn, ghk23naaaaaaaaaaabn, ghk23naaaaaaaaaabn, ghk23naaaaaaaaabn, ghk23naaaaaaaabn, ghk23naaaaaaabn, ghk23naaaaaabna, ghk23naaaaaabnb, ghk23naaaaabn, ghk23naaaabn, ghk23naaabn] at ghk23naaba
              all_goals
              try simp only [go_sem, n1, n2, n3, n4, hk2, ghk22, hhk22, ghk23naaaaaaaaaaaaaan, ghk23naaaaaaaaaaaaabn, ghk23naaaaaaaaaaaabn, ghk23naaaaaaaaaaabn, ghk23naaaaaaaaaabn, ghk23naaaaaaaaabn, ghk23naaaaaaaabn, ghk23naaaaaaabn, ghk23naaaaaabna, ghk23naaaaaabnb, ghk23naaaaabn, ghk23naaaabn, ghk23naaabn, ghk23naaba] at ghk23nabn
              all_goals
              obtain ⟨hk24, h⟩ := ck_some h
              rcases it_some h with ⟨hk25, h⟩ | ⟨hk25, h⟩
              · try simp only [go_sem, n1, n2, n3, n4, hk2, ghk22, hhk22, ghk23naaaaaaaaaaaaaan, ghk23naaaaaaaaaaaaabn, ghk23naaaaaaaaaaaabn, ghk23naaaaaaaaaaabn, ghk23naaaaaaaaaabn, ghk23naaaaaaaaabn, ghk23naaaaaaaabn, ghk23naaaaaaabn, ghk23naaaaaabna, ghk23naaaaaabnb, ghk23naaaaabn, ghk23naaaabn, ghk23naaabn, ghk23naaba, ghk23nabn] at hk25
                all_goals
                obtain rfl := so_some h
                refine ⟨0, fun L hL => ?_⟩
                simp only [go_sem, ir4, fhk1, hk2, fhk3, fhk4, fhk5, fhk6, fhk7, fhk8, fhk9, fhk10, fhk11, fhk12, fhk13, fhk14, fhk15, fhk16, fhk17, fhk18, fhk19, fhk20, fhk21, ghk22, hhk22, fhk22, ghk23naaaaaaaaaaaaaan, ghk23naaaaaaaaaaaaabn, ghk23naaaaaaaaaaaabn, ghk23naaaaaaaaaaabn, ghk23naaaaaaaaaabn, ghk23naaaaaaaaabn, ghk23naaaaaaaabn, ghk23naaaaaaabn, ghk23naaaaaabna, ghk23naaaaaabnb, ghk23naaaaabn, ghk23naaaabn, ghk23naaabn, ghk23naaba, ghk23nabn, hk25]
              · try simp only [go_sem, n1, n2, n3, n4, hk2, ghk22, hhk22, ghk23naaaaaaaaaaaaaan, ghk23naaaaaaaaaaaaabn, ghk23naaaaaaaaaaaabn, ghk23naaaaaaaaaaabn, ghk23naaaaaaaaaabn, ghk23naaaaaaaaabn, ghk23naaaaaaaabn, ghk23naaaaaaabn, ghk23naaaaaabna, ghk23naaaaaabnb, ghk23naaaaabn, ghk23naaaabn, ghk23naaabn, ghk23naaba, ghk23nabn] at hk25
                all_goals
                (simp_all)
            · have ghk23naabbn := no_f ghk23naabb
              have ghk23nabn := no_t ghk23nab
              try simp only [go_sem, n1, n2, n3, n4, hk2, ghk22, hhk22] at ghk23naaaaaaaaaaaaaan
              all_goals
              try simp only [go_sem, n1, n2, n3, n4, hk2, ghk22, hhk22, ghk23naaaaaaaaaaaaaan] at ghk23naaaaaaaaaaaaabn
              all_goals
              try simp only [go_sem, n1, n2, n3, n4, hk2, ghk22, hhk22, ghk23naaaaaaaaaaaaaan, ghk23naaaaaaaaaaaaabn] at ghk23naaaaaaaaaaaabn
              all_goals
              try simp only [go_sem, n1, n2, n3, n4, hk2, ghk22, hhk22, ghk23naaaaaaaaaaaaaan, ghk23naaaaaaaaaaaaabn, ghk23naaaaaaaaaaaabn] at ghk23naaaaaaaaaaabn
              all_goals
              try simp only [go_sem, n1, n2, n3, n4, hk2, ghk22, hhk22, ghk23naaaaaaaaaaaaaan, ghk23naaaaaaaaaaaaabn, ghk23naaaaaaaaaaaabn, ghk23naaaaaaaaaaabn] at ghk23naaaaaaaaaabn
              all_goals
              try simp only [go_sem, n1, n2, n3, n4, hk2, ghk22, hhk22, ghk23naaaaaaaaaaaaaan, ghk23naaaaaaaaaaaaabn, ghk23naaaaaaaaaaaabn, ghk23naaaaaaaaaaabn, ghk23naaaaaaaaaabn] at ghk23naaaaaaaaabn
              all_goals
              try simp only [go_sem, n1, n2, n3, n4, hk2, ghk22, hhk22, ghk23naaaaaaaaaaaaaan, ghk23naaaaaaaaaaaaabn, ghk23naaaaaaaaaaaabn, ghk23naaaaaaaaaaabn, ghk23naaaaaaaaaabn, ghk23naaaaaaaaabn] at ghk23naaaaaaaabn
              all_goals
              try simp only [go_sem, n1, n2, n3, n4, hk2, ghk22, hhk22, ghk23naaaaaaaaaaaaaan, ghk23naaaaaaaaaaaaabn, ghk23naaaaaaaaaaaabn, ghk23naaaaaaaaaaabn, ghk23naaaaaaaaaabn, ghk23naaaaaaaaabn, ghk23naaaaaaaabn] at ghk23naaaaaaabn
              all_goals
              try simp only [go_sem, n1, n2, n3, n4, hk2, ghk22, hhk22, ghk23naaaaaaaaaaaaaan, ghk23naaaaaaaaaaaaabn, ghk23naaaaaaaaaaaabn, ghk23naaaaaaaaaaabn, ghk23naaaaaaaaaabn, ghk23naaaaaaaaabn, ghk23naaaaaaaabn, ghk23naaaaaaabn] at ghk23naaaaaabna
              all_goals
              try simp only [go_sem, n1, n2, n3, n4, hk2, ghk22, hhk22, ghk23naaaaaaaaaaaaaan, ghk23naaaaaaaaaaaaabn, ghk23naaaaaaaaaaaabn, ghk23naaaaaaaaaaabn, ghk23naaaaaaaaaabn, ghk23naaaaaaaaabn, ghk23naaaaaaaabn, ghk23naaaaaaabn, ghk23naaaaaabna] at ghk23naaaaaabnb
              all_goals
              try simp only [go_sem, n1, n2, n3, n4, hk2, ghk22, hhk22, ghk23naaaaaaaaaaaaaan, ghk23naaaaaaaaaaaaabn, ghk23naaaaaaaaaaaabn, ghk23naaaaaaaaaaabn, ghk23naaaaaaaaaabn, ghk23naaaaaaaaabn, ghk23naaaaaaaabn, ghk23naaaaaaabn, ghk23naaaaaabna, ghk23naaaaaabnb] at ghk23naaaaabn
              all_goals
              try simp only [go_sem, n1, n2, n3, n4, hk2, ghk22, hhk22, ghk23naaaaaaaaaaaaaan, ghk23naaaaaaaaaaaaabn, ghk23naaaaaaaaaaaabn, ghk23naaaaaaaaaaabn, ghk23naaaaaaaaaabn, ghk23naaaaaaaaabn, ghk23naaaaaaaabn, ghk23naaaaaaabn, ghk23naaaaaabna, ghk23naaaaaabnb, ghk23naaaaabn] at ghk23naaaabn
              all_goals
              try simp only [go_sem, n1, n2, n3, n4, hk2, ghk22, hhk22, ghk23naaaaaaaaaaaaaan, ghk23naaaaaaaaaaaaabn, ghk23naaaaaaaaaaaabn, ghk23naaaaaaaaaaabn, ghk23naaaaaaaaaabn, ghk23naaaaaaaaabn, ghk23naaaaaaaabn, ghk23naaaaaaabn, ghk23naaaaaabna, ghk23naaaaaabnb, ghk23naaaaabn, ghk23naaaabn] at ghk23naaabn
              all_goals
              try simp only [go_sem, n1, n2, n3, n4, hk2, ghk22, hhk22, ghk23naaaaaaaaaaaaaan, ghk23naaaaaaaaaaaaabn, ghk23naaaaaaaaaaaabn, ghk23naaaaaaaaaaabn, ghk23naaaaaaaaaabn, ghk23naaaaaaaaabn, ghk23naaaaaaaabn, ghk23naaaaaaabn, ghk23naaaaaabna, ghk23naaaaaabnb, ghk23naaaaabn, ghk23naaaabn, ghk23naaabn] at ghk23naaba
              all_goals
              try simp only [go_sem, n1, n2, n3, n4, hk2, ghk22, hhk22, ghk23naaaaaaaaaaaaaan, ghk23naaaaaaaaaaaaabn, ghk23naaaaaaaaaaaabn, ghk23naaaaaaaaaaabn, ghk23naaaaaaaaaabn, ghk23naaaaaaaaabn, ghk23naaaaaaaabn, ghk23naaaaaaabn, ghk23naaaaaabna, ghk23naaaaaabnb, ghk23naaaaabn, ghk23naaaabn, ghk23naaabn, ghk23naaba] at ghk23naabbn
              all_goals
              try simp only [go_sem, n1, n2, n3, n4, hk2, ghk22, hhk22, ghk23naaaaaaaaaaaaaan, ghk23naaaaaaaaaaaaabn, ghk23naaaaaaaaaaaabn, ghk23naaaaaaaaaaabn, ghk23naaaaaaaaaabn, ghk23naaaaaaaaabn, ghk23naaaaaaaabn, ghk23naaaaaaabn, ghk23naaaaaabna, ghk23naaaaaabnb, ghk23naaaaabn, ghk23naaaabn, ghk23naaabn, ghk23naaba, ghk23naabbn] at ghk23nabn
              all_goals
              obtain ⟨hk24, h⟩ := ck_some h
              rcases it_some h with ⟨hk25, h⟩ | ⟨hk25, h⟩
              · try simp only [go_sem, n1, n2, n3, n4, hk2, ghk22, hhk22, ghk23naaaaaaaaaaaaaan, ghk23naaaaaaaaaaaaabn, ghk23naaaaaaaaaaaabn, ghk23naaaaaaaaaaabn, ghk23naaaaaaaaaabn, ghk23naaaaaaaaabn, ghk23naaaaaaaabn, ghk23naaaaaaabn, ghk23naaaaaabna, ghk23naaaaaabnb, ghk23naaaaabn, ghk23naaaabn, ghk23naaabn, ghk23naaba, ghk23naabbn, ghk23nabn] at hk25
                all_goals
                obtain rfl := so_some h
                refine ⟨0, fun L hL => ?_⟩
                simp only [go_sem, ir4, fhk1, hk2, fhk3, fhk4, fhk5, fhk6, fhk7, fhk8, fhk9, fhk10, fhk11, fhk12, fhk13, fhk14, fhk15, fhk16, fhk17, fhk18, fhk19, fhk20, fhk21, ghk22, hhk22, fhk22, ghk23naaaaaaaaaaaaaan, ghk23naaaaaaaaaaaaabn, ghk23naaaaaaaaaaaabn, ghk23naaaaaaaaaaabn, ghk23naaaaaaaaaabn, ghk23naaaaaaaaabn, ghk23naaaaaaaabn, ghk23naaaaaaabn, ghk23naaaaaabna, ghk23naaaaaabnb, ghk23naaaaabn, ghk23naaaabn, ghk23naaabn, ghk23naaba, ghk23naabbn, ghk23nabn, hk25]
              · try simp only [go_sem, n1, n2, n3, n4, hk2, ghk22, hhk22, ghk23naaaaaaaaaaaaaan, ghk23naaaaaaaaaaaaabn, ghk23naaaaaaaaaaaabn, ghk23naaaaaaaaaaabn, ghk23naaaaaaaaaabn, ghk23naaaaaaaaabn, ghk23naaaaaaaabn, ghk23naaaaaaabn, ghk23naaaaaabna, ghk23naaaaaabnb, ghk23naaaaabn, ghk23naaaabn, ghk23naaabn, ghk23naaba, ghk23naabbn, ghk23nabn] at hk25
                all_goals
                (simp_all)
        · obtain ⟨ghk23naa, ghk23nab⟩ := or_f ghk23na
          obtain ⟨ghk23naaa, ghk23naab⟩ := or_f ghk23naa
          obtain ⟨ghk23naaaa, ghk23naaab⟩ := or_f ghk23naaa
          obtain ⟨ghk23naaaaa, ghk23naaaab⟩ := or_f ghk23naaaa
          obtain ⟨ghk23naaaaaa, ghk23naaaaab⟩ := or_f ghk23naaaaa
          obtain ⟨ghk23naaaaaaa, ghk23naaaaaab⟩ := or_f ghk23naaaaaa
          obtain ⟨ghk23naaaaaaaa, ghk23naaaaaaab⟩ := or_f ghk23naaaaaaa
          obtain ⟨ghk23naaaaaaaaa, ghk23naaaaaaaab⟩ := or_f ghk23naaaaaaaa
          obtain ⟨ghk23naaaaaaaaaa, ghk23naaaaaaaaab⟩ := or_f ghk23naaaaaaaaa
          obtain ⟨ghk23naaaaaaaaaaa, ghk23naaaaaaaaaab⟩ := or_f ghk23naaaaaaaaaa
          obtain ⟨ghk23naaaaaaaaaaaa, ghk23naaaaaaaaaaab⟩ := or_f ghk23naaaaaaaaaaa
          obtain ⟨ghk23naaaaaaaaaaaaa, ghk23naaaaaaaaaaaab⟩ := or_f ghk23naaaaaaaaaaaa
          obtain ⟨ghk23naaaaaaaaaaaaaa, ghk23naaaaaaaaaaaaab⟩ := or_f ghk23naaaaaaaaaaaaa
          have ghk23naaaaaaaaaaaaaan := no_f ghk23naaaaaaaaaaaaaa
          have ghk23naaaaaaaaaaaaabn := no_f ghk23naaaaaaaaaaaaab
          have ghk23naaaaaaaaaaaabn := no_f ghk23naaaaaaaaaaaab
          have ghk23naaaaaaaaaaabn := no_f ghk23naaaaaaaaaaab
          have ghk23naaaaaaaaaabn := no_f ghk23naaaaaaaaaab
          have ghk23naaaaaaaaabn := no_f ghk23naaaaaaaaab
          have ghk23naaaaaaaabn := no_f ghk23naaaaaaaab
          have ghk23naaaaaaabn := no_f ghk23naaaaaaab
          have ghk23naaaaaabn := no_f ghk23naaaaaab
          obtain ⟨ghk23naaaaaabna, ghk23naaaaaabnb⟩ := and_t ghk23naaaaaabn
          have ghk23naaaaabn := no_f ghk23naaaaab
          have ghk23naaaabn := no_f ghk23naaaab
          have ghk23naaabn := no_f ghk23naaab
          rcases and_f ghk23naab with ghk23naaba | ⟨ghk23naaba, ghk23naabb⟩
          · have ghk23nabn := no_f ghk23nab
            have ghk23nbn := no_t ghk23nb
            try simp only [go_sem, n1, n2, n3, n4, hk2, ghk22, hhk22] at ghk23naaaaaaaaaaaaaan
            all_goals
            try simp only [go_sem, n1, n2, n3, n4, hk2, ghk22, hhk22, ghk23naaaaaaaaaaaaaan] at ghk23naaaaaaaaaaaaabn
            all_goals
            try simp only [go_sem, n1, n2, n3, n4, hk2, ghk22, hhk22, ghk23naaaaaaaaaaaaaan, ghk23naaaaaaaaaaaaabn] at ghk23naaaaaaaaaaaabn
            all_goals
            try simp only [go_sem, n1, n2, n3, n4, hk2, ghk22, hhk22, ghk23naaaaaaaaaaaaaan, ghk23naaaaaaaaaaaaabn, ghk23naaaaaaaaaaaabn] at ghk23naaaaaaaaaaabn
            all_goals
            try simp only [go_sem, n1, n2, n3, n4, hk2, ghk22, hhk22, ghk23naaaaaaaaaaaaaan, ghk23naaaaaaaaaaaaabn, ghk23naaaaaaaaaaaabn, ghk23naaaaaaaaaaabn] at ghk23naaaaaaaaaabn
            all_goals
            try simp only [go_sem, n1, n2, n3, n4, hk2, ghk22, hhk22, ghk23naaaaaaaaaaaaaan, ghk23naaaaaaaaaaaaabn, ghk23naaaaaaaaaaaabn, ghk23naaaaaaaaaaabn, ghk23naaaaaaaaaabn] at ghk23naaaaaaaaabn
            all_goals
            try simp only [go_sem, n1, n2, n3, n4, hk2, ghk22, hhk22, ghk23naaaaaaaaaaaaaan, ghk23naaaaaaaaaaaaabn, ghk23naaaaaaaaaaaabn, ghk23naaaaaaaaaaabn, ghk23naaaaaaaaaabn, ghk23naaaaaaaaabn] at ghk23naaaaaaaabn
            all_goals
            try simp only [go_sem, n1, n2, n3, n4, hk2, ghk22, hhk22, ghk23naaaaaaaaaaaaaan, ghk23naaaaaaaaaaaaabn, ghk23naaaaaaaaaaaabn, ghk23naaaaaaaaaaabn, ghk23naaaaaaaaaabn, ghk23naaaaaaaaabn, ghk23naaaaaaaabn] at ghk23naaaaaaabn
            all_goals
            try simp only [go_sem, n1, n2, n3, n4, hk2, ghk22, hhk22, ghk23naaaaaaaaaaaaaan, ghk23naaaaaaaaaaaaabn, ghk23naaaaaaaaaaaabn, ghk23naaaaaaaaaaabn, ghk23naaaaaaaaaabn, ghk23naaaaaaaaabn, ghk23naaaaaaaabn, ghk23naaaaaaabn] at ghk23naaaaaabna
            all_goals
            try simp only [go_sem, n1, n2, n3, n4, hk2, ghk22, hhk22, ghk23naaaaaaaaaaaaaan, ghk23naaaaaaaaaaaaabn, ghk23naaaaaaaaaaaabn, ghk23naaaaaaaaaaabn, ghk23naaaaaaaaaabn, ghk23naaaaaaaaabn, ghk23naaaaaaaabn, ghk23naaaaaaabn, ghk23naaaaaabna] at ghk23naaaaaabnb
            all_goals
            try simp only [go_sem, n1, n2, n3, n4, hk2, ghk22, hhk22, ghk23naaaaaaaaaaaaaan, ghk23naaaaaaaaaaaaabn, ghk23naaaaaaaaaaaabn, ghk23naaaaaaaaaaabn, ghk23naaaaaaaaaabn, ghk23naaaaaaaaabn, ghk23naaaaaaaabn, ghk23naaaaaaabn, ghk23naaaaaabna, ghk23naaaaaabnb] at ghk23naaaaabn
            all_goals
            try simp only [go_sem, n1, n2, n3, n4, hk2, ghk22, hhk22, ghk23naaaaaaaaaaaaaan, ghk23naaaaaaaaaaaaabn, ghk23naaaaaaaaaaaabn, ghk23naaaaaaaaaaabn, ghk23naaaaaaaaaabn, ghk23naaaaaaaaabn, ghk23naaaaaaaabn, ghk23naaaaaaabn, ghk23naaaaaabna, ghk23naaaaaabnb, ghk23naaaaabn] at ghk23naaaabn
            all_goals
            try simp only [go_sem, n1, n2, n3, n4, hk2, ghk22, hhk22, ghk23naaaaaaaaaaaaaan, ghk23naaaaaaaaaaaaabn, ghk23naaaaaaaaaaaabn, ghk23naaaaaaaaaaabn, ghk23naaaaaaaaaabn, ghk23naaaaaaaaabn, ghk23naaaaaaaabn, ghk23naaaaaaabn, ghk23naaaaaabna, ghk23naaaaaabnb, ghk23naaaaabn, ghk23naaaabn] at ghk23naaabn
            all_goals
            try simp only [go_sem, n1, n2, n3, n4, hk2, ghk22, hhk22, ghk23naaaaaaaaaaaaaan, ghk23naaaaaaaaaaaaabn, ghk23naaaaaaaaaaaabn, ghk23naaaaaaaaaaabn, ghk23naaaaaaaaaabn, ghk23naaaaaaaaabn, ghk23naaaaaaaabn, ghk23naaaaaaabn, ghk23naaaaaabna, ghk23naaaaaabnb, ghk23naaaaabn, ghk23naaaabn, ghk23naaabn] at ghk23naaba
            all_goals
            try simp only [go_sem, n1, n2, n3, n4, hk2, ghk22, hhk22, ghk23naaaaaaaaaaaaaan, ghk23naaaaaaaaaaaaabn, ghk23naaaaaaaaaaaabn, ghk23naaaaaaaaaaabn, ghk23naaaaaaaaaabn, ghk23naaaaaaaaabn, ghk23naaaaaaaabn, ghk23naaaaaaabn, ghk23naaaaaabna, ghk23naaaaaabnb, ghk23naaaaabn, ghk23naaaabn, ghk23naaabn, ghk23naaba] at ghk23nabn
            all_goals
            try simp only [go_sem, n1, n2, n3, n4, hk2, ghk22, hhk22, ghk23naaaaaaaaaaaaaan, ghk23naaaaaaaaaaaaabn, ghk23naaaaaaaaaaaabn, ghk23naaaaaaaaaaabn, ghk23naaaaaaaaaabn, ghk23naaaaaaaaabn, ghk23naaaaaaaabn, ghk23naaaaaaabn, ghk23naaaaaabna, ghk23naaaaaabnb, ghk23naaaaabn, ghk23naaaabn, ghk23naaabn, ghk23naaba, ghk23nabn] at ghk23nbn
            all_goals
            obtain ⟨hk24, h⟩ := ck_some h
            rcases it_some h with ⟨hk25, h⟩ | ⟨hk25, h⟩
            · try simp only [go_sem, n1, n2, n3, n4, hk2, ghk22, hhk22, ghk23naaaaaaaaaaaaaan, ghk23naaaaaaaaaaaaabn, ghk23naaaaaaaaaaaabn, ghk23naaaaaaaaaaabn, ghk23naaaaaaaaaabn, ghk23naaaaaaaaabn, ghk23naaaaaaaabn, ghk23naaaaaaabn, ghk23naaaaaabna, ghk23naaaaaabnb, ghk23naaaaabn, ghk23naaaabn, ghk23naaabn, ghk23naaba, ghk23nabn, ghk23nbn] at hk25
              all_goals
              obtain rfl := so_some h
              refine ⟨0, fun L hL => ?_⟩
              simp only [go_sem, ir4, fhk1, hk2, fhk3, fhk4, fhk5, fhk6, fhk7, fhk8, fhk9, fhk10, fhk11, fhk12, fhk13, fhk14, fhk15, fhk16, fhk17, fhk18, fhk19, fhk20, fhk21, ghk22, hhk22, fhk22, ghk23naaaaaaaaaaaaaan, ghk23naaaaaaaaaaaaabn, ghk23naaaaaaaaaaaabn, ghk23naaaaaaaaaaabn, ghk23naaaaaaaaaabn, ghk23naaaaaaaaabn, ghk23naaaaaaaabn, ghk23naaaaaaabn, ghk23naaaaaabna, ghk23naaaaaabnb, ghk23naaaaabn, ghk23naaaabn, ghk23naaabn, ghk23naaba, ghk23nabn, ghk23nbn, hk25]
            · try simp only [go_sem, n1, n2, n3, n4, hk2, ghk22, hhk22, ghk23naaaaaaaaaaaaaan, ghk23naaaaaaaaaaaaabn, ghk23naaaaaaaaaaaabn, ghk23naaaaaaaaaaabn, ghk23naaaaaaaaaabn, ghk23naaaaaaaaabn, ghk23naaaaaaaabn, ghk23naaaaaaabn, ghk23naaaaaabna, ghk23naaaaaabnb, ghk23naaaaabn, ghk23naaaabn, ghk23naaabn, ghk23naaba, ghk23nabn, ghk23nbn] at hk25
              all_goals
              (simp_all)
          · have ghk23naabbn := no_f ghk23naabb
            have ghk23nabn := no_f ghk23nab
            have ghk23nbn := no_t ghk23nb
            try simp only [go_sem, n1, n2, n3, n4, hk2, ghk22, hhk22] at ghk23naaaaaaaaaaaaaan
            all_goals
            try simp only [go_sem, n1, n2, n3, n4, hk2, ghk22, hhk22, ghk23naaaaaaaaaaaaaan] at ghk23naaaaaaaaaaaaabn
            all_goals
            try simp only [go_sem, n1, n2, n3, n4, hk2, ghk22, hhk22, ghk23naaaaaaaaaaaaaan, ghk23naaaaaaaaaaaaabn] at ghk23naaaaaaaaaaaabn
            all_goals
            try simp only [go_sem, n1, n2, n3, n4, hk2, ghk22, hhk22, ghk23naaaaaaaaaaaaaan, ghk23naaaaaaaaaaaaabn, ghk23naaaaaaaaaaaabn] at ghk23naaaaaaaaaaabn
            all_goals
            try simp only [go_sem, n1, n2, n3, n4, hk2, ghk22, hhk22, ghk23naaaaaaaaaaaaaan, ghk23naaaaaaaaaaaaabn, ghk23naaaaaaaaaaaabn, ghk23naaaaaaaaaaabn] at ghk23naaaaaaaaaabn
            all_goals
            try simp only [go_sem, n1, n2, n3, n4, hk2, ghk22, hhk22, ghk23naaaaaaaaaaaaaan, ghk23naaaaaaaaaaaaabn, ghk23naaaaaaaaaaaabn, ghk23naaaaaaaaaaabn, ghk23naaaaaaaaaabn] at ghk23naaaaaaaaabn
            all_goals
            try simp only [go_sem, n1, n2, n3, n4, hk2, ghk22, hhk22, ghk23naaaaaaaaaaaaaan, ghk23naaaaaaaaaaaaabn, ghk23naaaaaaaaaaaabn, ghk23naaaaaaaaaaabn, ghk23naaaaaaaaaabn, ghk23naaaaaaaaabn] at ghk23naaaaaaaabn
            all_goals
            try simp only [go_sem, n1, n2, n3, n4, hk2, ghk22, hhk22, ghk23naaaaaaaaaaaaaan, ghk23naaaaaaaaaaaaabn, ghk23naaaaaaaaaaaabn, ghk23naaaaaaaaaaabn, ghk23naaaaaaaaaabn, ghk23naaaaaaaaabn, ghk23naaaaaaaabn] at ghk23naaaaaaabn
            all_goals
            try simp only [go_sem, n1, n2, n3, n4, hk2, ghk22, hhk22, ghk23naaaaaaaaaaaaaan, ghk23naaaaaaaaaaaaabn, ghk23naaaaaaaaaaaabn, ghk23naaaaaaaaaaabn, ghk23naaaaaaaaaabn, ghk23naaaaaaaaabn, ghk23naaaaaaaabn, ghk23naaaaaaabn] at ghk23naaaaaabna
            all_goals
            try simp only [go_sem, n1, n2, n3, n4, hk2, ghk22, hhk22, ghk23naaaaaaaaaaaaaan, ghk23naaaaaaaaaaaaabn, ghk23naaaaaaaaaaaabn, ghk23naaaaaaaaaaabn, ghk23naaaaaaaaaabn, ghk23naaaaaaaaabn, ghk23naaaaaaaabn, ghk23naaaaaaabn, ghk23naaaaaabna] at ghk23naaaaaabnb
            all_goals
            try simp only [go_sem, n1, n2, n3, n4, hk2, ghk22, hhk22, ghk23naaaaaaaaaaaaaan, ghk23naaaaaaaaaaaaabn, ghk23naaaaaaaaaaaabn, ghk23naaaaaaaaaaabn, ghk23naaaaaaaaaabn, ghk23naaaaaaaaabn, ghk23naaaaaaaabn, ghk23naaaaaaabn, ghk23naaaaaabna, ghk23naaaaaabnb] at ghk23naaaaabn
            all_goals
            try simp only [go_sem, n1, n2, n3, n4, hk2, ghk22, hhk22, ghk23naaaaaaaaaaaaaan, ghk23naaaaaaaaaaaaabn, ghk23naaaaaaaaaaaabn, ghk23naaaaaaaaaaabn, ghk23naaaaaaaaaabn, ghk23naaaaaaaaabn, ghk23naaaaaaaabn, ghk23naaaaaaabn, ghk23naaaaaabna, ghk23naaaaaabnb, ghk23naaaaabn] at ghk23naaaabn
            all_goals
            try simp only [go_sem, n1, n2, n3, n4, hk2, ghk22, hhk22, ghk23naaaaaaaaaaaaaan, ghk23naaaaaaaaaaaaabn, ghk23naaaaaaaaaaaabn, ghk23naaaaaaaaaaabn, ghk23naaaaaaaaaabn, ghk23naaaaaaaaabn, ghk23naaaaaaaabn, ghk23naaaaaaabn, ghk23naaaaaabna, ghk23naaaaaabnb, ghk23naaaaabn, ghk23naaaabn] at ghk23naaabn
            all_goals
            try simp only [go_sem, n1, n2, n3, n4, hk2, ghk22, hhk22, ghk23naaaaaaaaaaaaaan, ghk23naaaaaaaaaaaaabn, ghk23naaaaaaaaaaaabn, ghk23naaaaaaaaaaabn, ghk23naaaaaaaaaabn, ghk23naaaaaaaaabn, ghk23naaaaaaaabn, ghk23naaaaaaabn, ghk23naaaaaabna, ghk23naaaaaabnb, ghk23naaaaabn, ghk23naaaabn, ghk23naaabn] at ghk23naaba
            all_goals
            try simp only [go_sem, n1, n2, n3, n4, hk2, ghk22, hhk22, ghk23naaaaaaaaaaaaaan, ghk23naaaaaaaaaaaaabn, ghk23naaaaaaaaaaaabn, ghk23naaaaaaaaaaabn, ghk23naaaaaaaaaabn, ghk23naaaaaaaaabn, ghk23naaaaaaaabn, ghk23naaaaaaabn, ghk23naaaaaabna, ghk23naaaaaabnb, ghk23naaaaabn, ghk23naaaabn, ghk23naaabn, ghk23naaba] at ghk23naabbn
            all_goals
            try simp only [go_sem, n1, n2, n3, n4, hk2, ghk22, hhk22, ghk23naaaaaaaaaaaaaan, ghk23naaaaaaaaaaaaabn, ghk23naaaaaaaaaaaabn, ghk23naaaaaaaaaaabn, ghk23naaaaaaaaaabn, ghk23naaaaaaaaabn, ghk23naaaaaaaabn, ghk23naaaaaaabn, ghk23naaaaaabna, ghk23naaaaaabnb, ghk23naaaaabn, ghk23naaaabn, ghk23naaabn, ghk23naaba, ghk23naabbn] at ghk23nabn
            all_goals
            try simp only [go_sem, n1, n2, n3, n4, hk2, ghk22, hhk22, ghk23naaaaaaaaaaaaaan, ghk23naaaaaaaaaaaaabn, ghk23naaaaaaaaaaaabn, ghk23naaaaaaaaaaabn, ghk23naaaaaaaaaabn, ghk23naaaaaaaaabn, ghk23naaaaaaaabn, ghk23naaaaaaabn, ghk23naaaaaabna, ghk23naaaaaabnb, ghk23naaaaabn, ghk23naaaabn, ghk23naaabn, ghk23naaba, ghk23naabbn, ghk23nabn] at ghk23nbn
            all_goals
            obtain ⟨hk24, h⟩ := ck_some h
            rcases it_some h with ⟨hk25, h⟩ | ⟨hk25, h⟩
            · try simp only [go_sem, n1, n2, n3, n4, hk2, ghk22, hhk22, ghk23naaaaaaaaaaaaaan, ghk23naaaaaaaaaaaaabn, ghk23naaaaaaaaaaaabn, ghk23naaaaaaaaaaabn, ghk23naaaaaaaaaabn, ghk23naaaaaaaaabn, ghk23naaaaaaaabn, ghk23naaaaaaabn, ghk23naaaaaabna, ghk23naaaaaabnb, ghk23naaaaabn, ghk23naaaabn, ghk23naaabn, ghk23naaba, ghk23naabbn, ghk23nabn, ghk23nbn] at hk25
              all_goals
              obtain rfl := so_some h
              refine ⟨0, fun L hL => ?_⟩
              simp only [go_sem, ir4, fhk1, hk2, fhk3, fhk4, fhk5, fhk6, fhk7, fhk8, fhk9, fhk10, fhk11, fhk12, fhk13, fhk14, fhk15, fhk16, fhk17, fhk18, fhk19, fhk20, fhk21, ghk22, hhk22, fhk22, ghk23naaaaaaaaaaaaaan, ghk23naaaaaaaaaaaaabn, ghk23naaaaaaaaaaaabn, ghk23naaaaaaaaaaabn, ghk23naaaaaaaaaabn, ghk23naaaaaaaaabn, ghk23naaaaaaaabn, ghk23naaaaaaabn, ghk23naaaaaabna, ghk23naaaaaabnb, ghk23naaaaabn, ghk23naaaabn, ghk23naaabn, ghk23naaba, ghk23naabbn, ghk23nabn, ghk23nbn, hk25]
            · try simp only [go_sem, n1, n2, n3, n4, hk2, ghk22, hhk22, ghk23naaaaaaaaaaaaaan, ghk23naaaaaaaaaaaaabn, ghk23naaaaaaaaaaaabn, ghk23naaaaaaaaaaabn, ghk23naaaaaaaaaabn, ghk23naaaaaaaaabn, ghk23naaaaaaaabn, ghk23naaaaaaabn, ghk23naaaaaabna, ghk23naaaaaabnb, ghk23naaaaabn, ghk23naaaabn, ghk23naaabn, ghk23naaba, ghk23naabbn, ghk23nabn, ghk23nbn] at hk25
              all_goals
              (simp_all)
    · have ghk22n := no_f ghk22
      rcases or_t ghk22n with ghk22na | ⟨ghk22na, ghk22nb⟩
      · rcases or_t ghk22na with ghk22naa | ⟨ghk22naa, ghk22nab⟩
        · rcases or_t ghk22naa with ghk22naaa | ⟨ghk22naaa, ghk22naab⟩
          · rcases or_t ghk22naaa with ghk22naaaa | ⟨ghk22naaaa, ghk22naaab⟩
            · rcases or_t ghk22naaaa with ghk22naaaaa | ⟨ghk22naaaaa, ghk22naaaab⟩
              · rcases or_t ghk22naaaaa with ghk22naaaaaa | ⟨ghk22naaaaaa, ghk22naaaaab⟩
                · rcases or_t ghk22naaaaaa with ghk22naaaaaaa | ⟨ghk22naaaaaaa, ghk22naaaaaab⟩
                  · rcases or_t ghk22naaaaaaa with ghk22naaaaaaaa | ⟨ghk22naaaaaaaa, ghk22naaaaaaab⟩
                    · rcases or_t ghk22naaaaaaaa with ghk22naaaaaaaaa | ⟨ghk22naaaaaaaaa, ghk22naaaaaaaab⟩
                      · have ghk22naaaaaaaaan := no_t ghk22naaaaaaaaa
                        try simp only [go_sem, n1, n2, n3, n4, hk2] at ghk22naaaaaaaaan
                        all_goals
                        obtain ⟨hk23, h⟩ := ck_some h
                        obtain ⟨hk24, h⟩ := ck_some h
                        rcases it_some h with ⟨hk25, h⟩ | ⟨hk25, h⟩
                        · try simp only [go_sem, n1, n2, n3, n4, hk2, ghk22naaaaaaaaan] at hk25
                          all_goals
                          obtain rfl := so_some h
                          refine ⟨0, fun L hL => ?_⟩
                          simp only [go_sem, ir4, fhk1, hk2, fhk3, fhk4, fhk5, fhk6, fhk7, fhk8, fhk9, fhk10, fhk11, fhk12, fhk13, fhk14, fhk15, fhk16, fhk17, fhk18, fhk19, fhk20, fhk21, ghk22naaaaaaaaan, hk25]
                        · try simp only [go_sem, n1, n2, n3, n4, hk2, ghk22naaaaaaaaan] at hk25
                          all_goals
                          (simp_all)
                      · have ghk22naaaaaaaaan := no_f ghk22naaaaaaaaa
                        have ghk22naaaaaaaabn := no_t ghk22naaaaaaaab
                        try simp only [go_sem, n1, n2, n3, n4, hk2] at ghk22naaaaaaaaan
                        all_goals
                        try simp only [go_sem, n1, n2, n3, n4, hk2, ghk22naaaaaaaaan] at ghk22naaaaaaaabn
                        all_goals
                        obtain ⟨hk23, h⟩ := ck_some h
                        obtain ⟨hk24, h⟩ := ck_some h
                        rcases it_some h with ⟨hk25, h⟩ | ⟨hk25, h⟩
                        · try simp only [go_sem, n1, n2, n3, n4, hk2, ghk22naaaaaaaaan, ghk22naaaaaaaabn] at hk25
                          all_goals
                          obtain rfl := so_some h
                          refine ⟨0, fun L hL => ?_⟩
                          simp only [go_sem, ir4, fhk1, hk2, fhk3, fhk4, fhk5, fhk6, fhk7, fhk8, fhk9, fhk10, fhk11, fhk12, fhk13, fhk14, fhk15, fhk16, fhk17, fhk18, fhk19, fhk20, fhk21, ghk22naaaaaaaaan, ghk22naaaaaaaabn, hk25]
                        · try simp only [go_sem, n1, n2, n3, n4, hk2, ghk22naaaaaaaaan, ghk22naaaaaaaabn] at hk25
                          all_goals
                          (simp_all)
                    · obtain ⟨ghk22naaaaaaaaa, ghk22naaaaaaaab⟩ := or_f ghk22naaaaaaaa
                      have ghk22naaaaaaaaan := no_f ghk22naaaaaaaaa
                      have ghk22naaaaaaaabn := no_f ghk22naaaaaaaab
                      have ghk22naaaaaaabn := no_t ghk22naaaaaaab
                      try simp only [go_sem, n1, n2, n3, n4, hk2] at ghk22naaaaaaaaan
                      all_goals
                      try simp only [go_sem, n1, n2, n3, n4, hk2, ghk22naaaaaaaaan] at ghk22naaaaaaaabn
                      all_goals
                      try simp only [go_sem, n1, n2, n3, n4, hk2, ghk22naaaaaaaaan, ghk22naaaaaaaabn] at ghk22naaaaaaabn
                      all_goals
                      obtain ⟨hk23, h⟩ := ck_some h
                      obtain ⟨hk24, h⟩ := ck_some h
                      rcases it_some h with ⟨hk25, h⟩ | ⟨hk25, h⟩
                      · try simp only [go_sem, n1, n2, n3, n4, hk2, ghk22naaaaaaaaan, ghk22naaaaaaaabn, ghk22naaaaaaabn] at hk25
                        all_goals
                        obtain rfl := so_some h
                        refine ⟨0, fun L hL => ?_⟩
                        simp only [go_sem, ir4, fhk1, hk2, fhk3, fhk4, fhk5, fhk6, fhk7, fhk8, fhk9, fhk10, fhk11, fhk12, fhk13, fhk14, fhk15, fhk16, fhk17, fhk18, fhk19, fhk20, fhk21, ghk22naaaaaaaaan, ghk22naaaaaaaabn, ghk22naaaaaaabn, hk25]
                      · try simp only [go_sem, n1, n2, n3, n4, hk2, ghk22naaaaaaaaan, ghk22naaaaaaaabn, ghk22naaaaaaabn] at hk25
                        all_goals
                        (simp_all)
                  · obtain ⟨ghk22naaaaaaaa, ghk22naaaaaaab⟩ := or_f ghk22naaaaaaa
                    obtain ⟨ghk22naaaaaaaaa, ghk22naaaaaaaab⟩ := or_f ghk22naaaaaaaa
                    have ghk22naaaaaaaaan := no_f ghk22naaaaaaaaa
                    have ghk22naaaaaaaabn := no_f ghk22naaaaaaaab
                    have ghk22naaaaaaabn := no_f ghk22naaaaaaab
                    have ghk22naaaaaabn := no_t ghk22naaaaaab
                    try simp only [go_sem, n1, n2, n3, n4, hk2] at ghk22naaaaaaaaan
                    all_goals
                    try simp only [go_sem, n1, n2, n3, n4, hk2, ghk22naaaaaaaaan] at ghk22naaaaaaaabn
                    all_goals
                    try simp only [go_sem, n1, n2, n3, n4, hk2, ghk22naaaaaaaaan, ghk22naaaaaaaabn] at ghk22naaaaaaabn
                    all_goals
                    try simp only [go_sem, n1, n2, n3, n4, hk2, ghk22naaaaaaaaan, ghk22naaaaaaaabn, ghk22naaaaaaabn] at ghk22naaaaaabn
                    all_goals
                    obtain ⟨hk23, h⟩ := ck_some h
                    obtain ⟨hk24, h⟩ := ck_some h
                    rcases it_some h with ⟨hk25, h⟩ | ⟨hk25, h⟩
                    · try simp only [go_sem, n1, n2, n3, n4, hk2, ghk22naaaaaaaaan, ghk22naaaaaaaabn, ghk22naaaaaaabn, ghk22naaaaaabn] at hk25
                      all_goals
                      obtain rfl := so_some h
                      refine ⟨0, fun L hL => ?_⟩
                      simp only [go_sem, ir4, fhk1, hk2, fhk3, fhk4, fhk5, fhk6, fhk7, fhk8, fhk9, fhk10, fhk11, fhk12, fhk13, fhk14, fhk15, fhk16, fhk17, fhk18, fhk19, fhk20, fhk21, ghk22naaaaaaaaan, ghk22naaaaaaaabn, ghk22naaaaaaabn, ghk22naaaaaabn, hk25]
                    · try simp only [go_sem, n1, n2, n3, n4, hk2, ghk22naaaaaaaaan, ghk22naaaaaaaabn, ghk22naaaaaaabn, ghk22naaaaaabn] at hk25
                      all_goals
                      (simp_all)
                · obtain ⟨ghk22naaaaaaa, ghk22naaaaaab⟩ := or_f ghk22naaaaaa
                  obtain ⟨ghk22naaaaaaaa, ghk22naaaaaaab⟩ := or_f ghk22naaaaaaa
                  obtain ⟨ghk22naaaaaaaaa, ghk22naaaaaaaab⟩ := or_f ghk22naaaaaaaa
                  have ghk22naaaaaaaaan := no_f ghk22naaaaaaaaa
                  have ghk22naaaaaaaabn := no_f ghk22naaaaaaaab
                  have ghk22naaaaaaabn := no_f ghk22naaaaaaab
                  have ghk22naaaaaabn := no_f ghk22naaaaaab
                  have ghk22naaaaabn := no_t ghk22naaaaab
                  try simp only [go_sem, n1, n2, n3, n4, hk2] at ghk22naaaaaaaaan
                  all_goals
                  try simp only [go_sem, n1, n2, n3, n4, hk2, ghk22naaaaaaaaan] at ghk22naaaaaaaabn
                  all_goals
                  try simp only [go_sem, n1, n2, n3, n4, hk2, ghk22naaaaaaaaan, ghk22naaaaaaaabn] at ghk22naaaaaaabn
                  all_goals
                  try simp only [go_sem, n1, n2, n3, n4, hk2, ghk22naaaaaaaaan, ghk22naaaaaaaabn, ghk22naaaaaaabn] at ghk22naaaaaabn
                  all_goals
                  try simp only [go_sem, n1, n2, n3, n4, hk2, ghk22naaaaaaaaan, ghk22naaaaaaaabn, ghk22naaaaaaabn, ghk22naaaaaabn] at ghk22naaaaabn
                  all_goals
                  obtain ⟨hk23, h⟩ := ck_some h
                  obtain ⟨hk24, h⟩ := ck_some h
                  rcases it_some h with ⟨hk25, h⟩ | ⟨hk25, h⟩
                  · try simp only [go_sem, n1, n2, n3, n4, hk2, ghk22naaaaaaaaan, ghk22naaaaaaaabn, ghk22naaaaaaabn, ghk22naaaaaabn, ghk22naaaaabn] at hk25
                    all_goals
                    obtain rfl := so_some h
                    refine ⟨0, fun L hL => ?_⟩
                    simp only [go_sem, ir4, fhk1, hk2, fhk3, fhk4, fhk5, fhk6, fhk7, fhk8, fhk9, fhk10, fhk11, fhk12, fhk13, fhk14, fhk15, fhk16, fhk17, fhk18, fhk19, fhk20, fhk21, ghk22naaaaaaaaan, ghk22naaaaaaaabn, ghk22naaaaaaabn, ghk22naaaaaabn, ghk22naaaaabn, hk25]
                  · try simp only [go_sem, n1, n2, n3, n4, hk2, ghk22naaaaaaaaan, ghk22naaaaaaaabn, ghk22naaaaaaabn, ghk22naaaaaabn, ghk22naaaaabn] at hk25
                    all_goals
                    (simp_all)
              · obtain ⟨ghk22naaaaaa, ghk22naaaaab⟩ := or_f ghk22naaaaa
                obtain ⟨ghk22naaaaaaa, ghk22naaaaaab⟩ := or_f ghk22naaaaaa
                obtain ⟨ghk22naaaaaaaa, ghk22naaaaaaab⟩ := or_f ghk22naaaaaaa
                obtain ⟨ghk22naaaaaaaaa, ghk22naaaaaaaab⟩ := or_f ghk22naaaaaaaa
                have ghk22naaaaaaaaan := no_f ghk22naaaaaaaaa
                have ghk22naaaaaaaabn := no_f ghk22naaaaaaaab
                have ghk22naaaaaaabn := no_f ghk22naaaaaaab
                have ghk22naaaaaabn := no_f ghk22naaaaaab
                have ghk22naaaaabn := no_f ghk22naaaaab
                have ghk22naaaabn := no_t ghk22naaaab
                try simp only [go_sem, n1, n2, n3, n4, hk2] at ghk22naaaaaaaaan
                all_goals
                try simp only [go_sem, n1, n2, n3, n4, hk2, ghk22naaaaaaaaan] at ghk22naaaaaaaabn
                all_goals
                try simp only [go_sem, n1, n2, n3, n4, hk2, ghk22naaaaaaaaan, ghk22naaaaaaaabn] at ghk22naaaaaaabn
                all_goals
                try simp only [go_sem, n1, n2, n3, n4, hk2, ghk22naaaaaaaaan, ghk22naaaaaaaabn, ghk22naaaaaaabn] at ghk22naaaaaabn
                all_goals
                try simp only [go_sem, n1, n2, n3, n4, hk2, ghk22naaaaaaaaan, ghk22naaaaaaaabn, ghk22naaaaaaabn, ghk22naaaaaabn] at ghk22naaaaabn
                all_goals
                try simp only [go_sem, n1, n2, n3, n4, hk2, ghk22naaaaaaaaan, ghk22naaaaaaaabn, ghk22naaaaaaabn, ghk22naaaaaabn, ghk22naaaaabn] at ghk22naaaabn
                all_goals
                obtain ⟨hk23, h⟩ := ck_some h
                obtain ⟨hk24, h⟩ := ck_some h
                rcases it_some h with ⟨hk25, h⟩ | ⟨hk25, h⟩
                · try simp only [go_sem, n1, n2, n3, n4, hk2, ghk22naaaaaaaaan, ghk22naaaaaaaabn, ghk22naaaaaaabn, ghk22naaaaaabn, ghk22naaaaabn, ghk22naaaabn] at hk25
                  all_goals
                  obtain rfl := so_some h
                  refine ⟨0, fun L hL => ?_⟩
                  simp only [go_sem, ir4, fhk1, hk2, fhk3, fhk4, fhk5, fhk6, fhk7, fhk8, fhk9, fhk10, fhk11, fhk12, fhk13, fhk14, fhk15, fhk16, fhk17, fhk18, fhk19, fhk20, fhk21, ghk22naaaaaaaaan, ghk22naaaaaaaabn, ghk22naaaaaaabn, ghk22naaaaaabn, ghk22naaaaabn, ghk22naaaabn, hk25]
                · try simp only [go_sem, n1, n2, n3, n4, hk2, ghk22naaaaaaaaan, ghk22naaaaaaaabn, ghk22naaaaaaabn, ghk22naaaaaabn, ghk22naaaaabn, ghk22naaaabn] at hk25
                  all_goals
                  (simp_all)
            · obtain ⟨ghk22naaaaa, ghk22naaaab⟩ := or_f ghk22naaaa
              obtain ⟨ghk22naaaaaa, ghk22naaaaab⟩ := or_f ghk22naaaaa
              obtain ⟨ghk22naaaaaaa, ghk22naaaaaab⟩ := or_f ghk22naaaaaa
              obtain ⟨ghk22naaaaaaaa, ghk22naaaaaaab⟩ := or_f ghk22naaaaaaa
              obtain ⟨ghk22naaaaaaaaa, ghk22naaaaaaaab⟩ := or_f ghk22naaaaaaaa
              have ghk22naaaaaaaaan := no_f ghk22naaaaaaaaa
              have ghk22naaaaaaaabn := no_f ghk22naaaaaaaab
              have ghk22naaaaaaabn := no_f ghk22naaaaaaab
              have ghk22naaaaaabn := no_f ghk22naaaaaab
              have ghk22naaaaabn := no_f ghk22naaaaab
              have ghk22naaaabn := no_f ghk22naaaab
              have ghk22naaabn := no_t ghk22naaab
              try simp only [go_sem, n1, n2, n3, n4, hk2] at ghk22naaaaaaaaan
              all_goals
              try simp only [go_sem, n1, n2, n3, n4, hk2, ghk22naaaaaaaaan] at ghk22naaaaaaaabn
              all_goals
              try simp only [go_sem, n1, n2, n3, n4, hk2, ghk22naaaaaaaaan, ghk22naaaaaaaabn] at ghk22naaaaaaabn
              all_goals
              try simp only [go_sem, n1, n2, n3, n4, hk2, ghk22naaaaaaaaan, ghk22naaaaaaaabn, ghk22naaaaaaabn] at ghk22naaaaaabn
              all_goals
              try simp only [go_sem, n1, n2, n3, n4, hk2, ghk22naaaaaaaaan, ghk22naaaaaaaabn, ghk22naaaaaaabn, ghk22naaaaaabn] at ghk22naaaaabn
              all_goals
              try simp only [go_sem, n1, n2, n3, n4, hk2, ghk22naaaaaaaaan, ghk22naaaaaaaabn, ghk22naaaaaaabn, ghk22naaaaaabn, ghk22naaaaabn] at ghk22naaaabn
              all_goals
              try simp only [go_sem, n1, n2, n3, n4, hk2, ghk22naaaaaaaaan, ghk22naaaaaaaabn, ghk22naaaaaaabn, ghk22naaaaaabn, ghk22naaaaabn, ghk22naaaabn] at ghk22naaabn
              all_goals
              obtain ⟨hk23, h⟩ := ck_some h
              obtain ⟨hk24, h⟩ := ck_some h
              rcases it_some h with ⟨hk25, h⟩ | ⟨hk25, h⟩
              · try simp only [go_sem, n1, n2, n3, n4, hk2, ghk22naaaaaaaaan, ghk22naaaaaaaabn, ghk22naaaaaaabn, ghk22naaaaaabn, ghk22naaaaabn, ghk22naaaabn, ghk22naaabn] at hk25
                all_goals
                obtain rfl := so_some h
                refine ⟨0, fun L hL => ?_⟩
                simp only [go_sem, ir4, fhk1, hk2, fhk3, fhk4, fhk5, fhk6, fhk7, fhk8, fhk9, fhk10, fhk11, fhk12, fhk13, fhk14, fhk15, fhk16, fhk17, fhk18, fhk19, fhk20, fhk21, ghk22naaaaaaaaan, ghk22naaaaaaaabn, ghk22naaaaaaabn, ghk22naaaaaabn, ghk22naaaaabn, ghk22naaaabn, ghk22naaabn, hk25]
              · try simp only [go_sem, n1, n2, n3, n4, hk2, ghk22naaaaaaaaan, ghk22naaaaaaaabn, ghk22naaaaaaabn, ghk22naaaaaabn, ghk22naaaaabn, ghk22naaaabn, ghk22naaabn] at hk25
                all_goals
                (simp_all)
          · obtain ⟨ghk22naaaa, ghk22naaab⟩ := or_f ghk22naaa
            obtain ⟨ghk22naaaaa, ghk22naaaab⟩ := or_f ghk22naaaa
            obtain ⟨ghk22naaaaaa, ghk22naaaaab⟩ := or_f ghk22naaaaa
            obtain ⟨ghk22naaaaaaa, ghk22naaaaaab⟩ := or_f ghk22naaaaaa
            obtain ⟨ghk22naaaaaaaa, ghk22naaaaaaab⟩ := or_f ghk22naaaaaaa
            obtain ⟨ghk22naaaaaaaaa, ghk22naaaaaaaab⟩ := or_f ghk22naaaaaaaa
            have ghk22naaaaaaaaan := no_f ghk22naaaaaaaaa
            have ghk22naaaaaaaabn := no_f ghk22naaaaaaaab
            have ghk22naaaaaaabn := no_f ghk22naaaaaaab
            have ghk22naaaaaabn := no_f ghk22naaaaaab
            have ghk22naaaaabn := no_f ghk22naaaaab
            have ghk22naaaabn := no_f ghk22naaaab
            have ghk22naaabn := no_f ghk22naaab
            have ghk22naabn := no_t ghk22naab
            try simp only [go_sem, n1, n2, n3, n4, hk2] at ghk22naaaaaaaaan
            all_goals
            try simp only [go_sem, n1, n2, n3, n4, hk2, ghk22naaaaaaaaan] at ghk22naaaaaaaabn
            all_goals
            try simp only [go_sem, n1, n2, n3, n4, hk2, ghk22naaaaaaaaan, ghk22naaaaaaaabn] at ghk22naaaaaaabn
            all_goals
            try simp only [go_sem, n1, n2, n3, n4, hk2, ghk22naaaaaaaaan, ghk22naaaaaaaabn, ghk22naaaaaaabn] at ghk22naaaaaabn
            all_goals
            try simp only [go_sem, n1, n2, n3, n4, hk2, ghk22naaaaaaaaan, ghk22naaaaaaaabn, ghk22naaaaaaabn, ghk22naaaaaabn] at ghk22naaaaabn
            all_goals
            try simp only [go_sem, n1, n2, n3, n4, hk2, ghk22naaaaaaaaan, ghk22naaaaaaaabn, ghk22naaaaaaabn, ghk22naaaaaabn, ghk22naaaaabn] at ghk22naaaabn
            all_goals
            try simp only [go_sem, n1, n2, n3, n4, hk2, ghk22naaaaaaaaan, ghk22naaaaaaaabn, ghk22naaaaaaabn, ghk22naaaaaabn, ghk22naaaaabn, ghk22naaaabn] at ghk22naaabn
            all_goals
            try simp only [go_sem, n1, n2, n3, n4, hk2, ghk22naaaaaaaaan, ghk22naaaaaaaabn, ghk22naaaaaaabn, ghk22naaaaaabn, ghk22naaaaabn, ghk22naaaabn, ghk22naaabn] at ghk22naabn
            all_goals
            obtain ⟨hk23, h⟩ := ck_some h
            obtain ⟨hk24, h⟩ := ck_some h
            rcases it_some h with ⟨hk25, h⟩ | ⟨hk25, h⟩
            · try simp only [go_sem, n1, n2, n3, n4, hk2, ghk22naaaaaaaaan, ghk22naaaaaaaabn, ghk22naaaaaaabn, ghk22naaaaaabn, ghk22naaaaabn, ghk22naaaabn, ghk22naaabn, ghk22naabn] at hk25
              all_goals
              obtain rfl := so_some h
              refine ⟨0, fun L hL => ?_⟩
              simp only [go_sem, ir4, fhk1, hk2, fhk3, fhk4, fhk5, fhk6, fhk7, fhk8, fhk9, fhk10, fhk11, fhk12, fhk13, fhk14, fhk15, fhk16, fhk17, fhk18, fhk19, fhk20, fhk21, ghk22naaaaaaaaan, ghk22naaaaaaaabn, ghk22naaaaaaabn, ghk22naaaaaabn, ghk22naaaaabn, ghk22naaaabn, ghk22naaabn, ghk22naabn, hk25]
            · try simp only [go_sem, n1, n2, n3, n4, hk2, ghk22naaaaaaaaan, ghk22naaaaaaaabn, ghk22naaaaaaabn, ghk22naaaaaabn, ghk22naaaaabn, ghk22naaaabn, ghk22naaabn, ghk22naabn] at hk25
              all_goals
              (simp_all)
        · obtain ⟨ghk22naaa, ghk22naab⟩ := or_f ghk22naa
          obtain ⟨ghk22naaaa, ghk22naaab⟩ := or_f ghk22naaa
          obtain ⟨ghk22naaaaa, ghk22naaaab⟩ := or_f ghk22naaaa
          obtain ⟨ghk22naaaaaa, ghk22naaaaab⟩ := or_f ghk22naaaaa
          obtain ⟨ghk22naaaaaaa, ghk22naaaaaab⟩ := or_f ghk22naaaaaa
          obtain ⟨ghk22naaaaaaaa, ghk22naaaaaaab⟩ := or_f ghk22naaaaaaa
          obtain ⟨ghk22naaaaaaaaa, ghk22naaaaaaaab⟩ := or_f ghk22naaaaaaaa
          have ghk22naaaaaaaaan := no_f ghk22naaaaaaaaa
          have ghk22naaaaaaaabn := no_f ghk22naaaaaaaab
          have ghk22naaaaaaabn := no_f ghk22naaaaaaab
          have ghk22naaaaaabn := no_f ghk22naaaaaab
          have ghk22naaaaabn := no_f ghk22naaaaab
          have ghk22naaaabn := no_f ghk22naaaab
          have ghk22naaabn := no_f ghk22naaab
          have ghk22naabn := no_f ghk22naab
          have ghk22nabn := no_t ghk22nab
          rcases and_f ghk22nabn with ghk22nabna | ⟨ghk22nabna, ghk22nabnb⟩
          · try simp only [go_sem, n1, n2, n3, n4, hk2] at ghk22naaaaaaaaan
            all_goals
            try simp only [go_sem, n1, n2, n3, n4, hk2, ghk22naaaaaaaaan] at ghk22naaaaaaaabn
            all_goals
            try simp only [go_sem, n1, n2, n3, n4, hk2, ghk22naaaaaaaaan, ghk22naaaaaaaabn] at ghk22naaaaaaabn
            all_goals
            try simp only [go_sem, n1, n2, n3, n4, hk2, ghk22naaaaaaaaan, ghk22naaaaaaaabn, ghk22naaaaaaabn] at ghk22naaaaaabn
            all_goals
            try simp only [go_sem, n1, n2, n3, n4, hk2, ghk22naaaaaaaaan, ghk22naaaaaaaabn, ghk22naaaaaaabn, ghk22naaaaaabn] at ghk22naaaaabn
            all_goals
            try simp only [go_sem, n1, n2, n3, n4, hk2, ghk22naaaaaaaaan, ghk22naaaaaaaabn, ghk22naaaaaaabn, ghk22naaaaaabn, ghk22naaaaabn] at ghk22naaaabn
            all_goals
            try simp only [go_sem, n1, n2, n3, n4, hk2, ghk22naaaaaaaaan, ghk22naaaaaaaabn, ghk22naaaaaaabn, ghk22naaaaaabn, ghk22naaaaabn, ghk22naaaabn] at ghk22naaabn
            all_goals
            try simp only [go_sem, n1, n2, n3, n4, hk2, ghk22naaaaaaaaan, ghk22naaaaaaaabn, ghk22naaaaaaabn, ghk22naaaaaabn, ghk22naaaaabn, ghk22naaaabn, ghk22naaabn] at ghk22naabn
            all_goals
            try simp only [go_sem, n1, n2, n3, n4, hk2, ghk22naaaaaaaaan, ghk22naaaaaaaabn, ghk22naaaaaaabn, ghk22naaaaaabn, ghk22naaaaabn, ghk22naaaabn, ghk22naaabn, ghk22naabn] at ghk22nabna
            all_goals
            obtain ⟨hk23, h⟩ := ck_some h
            obtain ⟨hk24, h⟩ := ck_some h
            rcases it_some h with ⟨hk25, h⟩ | ⟨hk25, h⟩
            · try simp only [go_sem, n1, n2, n3, n4, hk2, ghk22naaaaaaaaan, ghk22naaaaaaaabn, ghk22naaaaaaabn, ghk22naaaaaabn, ghk22naaaaabn, ghk22naaaabn, ghk22naaabn, ghk22naabn, ghk22nabna] at hk25
              all_goals
              obtain rfl := so_some h
              refine ⟨0, fun L hL => ?_⟩
              simp only [go_sem, ir4, fhk1, hk2, fhk3, fhk4, fhk5, fhk6, fhk7, fhk8, fhk9, fhk10, fhk11, fhk12, fhk13, fhk14, fhk15, fhk16, fhk17, fhk18, fhk19, fhk20, fhk21, ghk22naaaaaaaaan, ghk22naaaaaaaabn, ghk22naaaaaaabn, ghk22naaaaaabn, ghk22naaaaabn, ghk22naaaabn, ghk22naaabn, ghk22naabn, ghk22nabna, hk25]
            · try simp only [go_sem, n1, n2, n3, n4, hk2, ghk22naaaaaaaaan, ghk22naaaaaaaabn, ghk22naaaaaaabn, ghk22naaaaaabn, ghk22naaaaabn, ghk22naaaabn, ghk22naaabn, ghk22naabn, ghk22nabna] at hk25
              all_goals
              (simp_all)
          · try simp only [go_sem, n1, n2, n3, n4, hk2] at ghk22naaaaaaaaan
            all_goals
            try simp only [go_sem, n1, n2, n3, n4, hk2, ghk22naaaaaaaaan] at ghk22naaaaaaaabn
            all_goals
            try simp only [go_sem, n1, n2, n3, n4, hk2, ghk22naaaaaaaaan, ghk22naaaaaaaabn] at ghk22naaaaaaabn
            all_goals
            try simp only [go_sem, n1, n2, n3, n4, hk2, ghk22naaaaaaaaan, ghk22naaaaaaaabn, ghk22naaaaaaabn] at ghk22naaaaaabn
            all_goals
            try simp only [go_sem, n1, n2, n3, n4, hk2, ghk22naaaaaaaaan, ghk22naaaaaaaabn, ghk22naaaaaaabn, ghk22naaaaaabn] at ghk22naaaaabn
            all_goals
            try simp only [go_sem, n1, n2, n3, n4, hk2, ghk22naaaaaaaaan, ghk22naaaaaaaabn, ghk22naaaaaaabn, ghk22naaaaaabn, ghk22naaaaabn] at ghk22naaaabn
            all_goals
            try simp only [go_sem, n1, n2, n3, n4, hk2, ghk22naaaaaaaaan, ghk22naaaaaaaabn, ghk22naaaaaaabn, ghk22naaaaaabn, ghk22naaaaabn, ghk22naaaabn] at ghk22naaabn
            all_goals
            try simp only [go_sem, n1, n2, n3, n4, hk2, ghk22naaaaaaaaan, ghk22naaaaaaaabn, ghk22naaaaaaabn, ghk22naaaaaabn, ghk22naaaaabn, ghk22naaaabn, ghk22naaabn] at ghk22naabn
            all_goals
            try simp only [go_sem, n1, n2, n3, n4, hk2, ghk22naaaaaaaaan, ghk22naaaaaaaabn, ghk22naaaaaaabn, ghk22naaaaaabn, ghk22naaaaabn, ghk22naaaabn, ghk22naaabn, ghk22naabn] at ghk22nabna
            all_goals
            try simp only [go_sem, n1, n2, n3, n4, hk2, ghk22naaaaaaaaan, ghk22naaaaaaaabn, ghk22naaaaaaabn, ghk22naaaaaabn, ghk22naaaaabn, ghk22naaaabn, ghk22naaabn, ghk22naabn, ghk22nabna] at ghk22nabnb
            all_goals
            obtain ⟨hk23, h⟩ := ck_some h
            obtain ⟨hk24, h⟩ := ck_some h
            rcases it_some h with ⟨hk25, h⟩ | ⟨hk25, h⟩
            · try simp only [go_sem, n1, n2, n3, n4, hk2, ghk22naaaaaaaaan, ghk22naaaaaaaabn, ghk22naaaaaaabn, ghk22naaaaaabn, ghk22naaaaabn, ghk22naaaabn, ghk22naaabn, ghk22naabn, ghk22nabna, ghk22nabnb] at hk25
              all_goals
              obtain rfl := so_some h
              refine ⟨0, fun L hL => ?_⟩
              simp only [go_sem, ir4, fhk1, hk2, fhk3, fhk4, fhk5, fhk6, fhk7, fhk8, fhk9, fhk10, fhk11, fhk12, fhk13, fhk14, fhk15, fhk16, fhk17, fhk18, fhk19, fhk20, fhk21, ghk22naaaaaaaaan, ghk22naaaaaaaabn, ghk22naaaaaaabn, ghk22naaaaaabn, ghk22naaaaabn, ghk22naaaabn, ghk22naaabn, ghk22naabn, ghk22nabna, ghk22nabnb, hk25]
            · try simp only [go_sem, n1, n2, n3, n4, hk2, ghk22naaaaaaaaan, ghk22naaaaaaaabn, ghk22naaaaaaabn, ghk22naaaaaabn, ghk22naaaaabn, ghk22naaaabn, ghk22naaabn, ghk22naabn, ghk22nabna, ghk22nabnb] at hk25
              all_goals
              (simp_all)
      · obtain ⟨ghk22naa, ghk22nab⟩ := or_f ghk22na
        obtain ⟨ghk22naaa, ghk22naab⟩ := or_f ghk22naa
        obtain ⟨ghk22naaaa, ghk22naaab⟩ := or_f ghk22naaa
        obtain ⟨ghk22naaaaa, ghk22naaaab⟩ := or_f ghk22naaaa
        obtain ⟨ghk22naaaaaa, ghk22naaaaab⟩ := or_f ghk22naaaaa
        obtain ⟨ghk22naaaaaaa, ghk22naaaaaab⟩ := or_f ghk22naaaaaa
        obtain ⟨ghk22naaaaaaaa, ghk22naaaaaaab⟩ := or_f ghk22naaaaaaa
        obtain ⟨ghk22naaaaaaaaa, ghk22naaaaaaaab⟩ := or_f ghk22naaaaaaaa
        have ghk22naaaaaaaaan := no_f ghk22naaaaaaaaa
        have ghk22naaaaaaaabn := no_f ghk22naaaaaaaab
        have ghk22naaaaaaabn := no_f ghk22naaaaaaab
        have ghk22naaaaaabn := no_f ghk22naaaaaab
        have ghk22naaaaabn := no_f ghk22naaaaab
        have ghk22naaaabn := no_f ghk22naaaab
        have ghk22naaabn := no_f ghk22naaab
        have ghk22naabn := no_f ghk22naab
        have ghk22nabn := no_f ghk22nab
        obtain ⟨ghk22nabna, ghk22nabnb⟩ := and_t ghk22nabn
        have ghk22nbn := no_t ghk22nb
        try simp only [go_sem, n1, n2, n3, n4, hk2] at ghk22naaaaaaaaan
        all_goals
        try simp only [go_sem, n1, n2, n3, n4, hk2, ghk22naaaaaaaaan] at ghk22naaaaaaaabn
        all_goals
        try simp only [go_sem, n1, n2, n3, n4, hk2, ghk22naaaaaaaaan, ghk22naaaaaaaabn] at ghk22naaaaaaabn
        all_goals
        try simp only [go_sem, n1, n2, n3, n4, hk2, ghk22naaaaaaaaan, ghk22naaaaaaaabn, ghk22naaaaaaabn] at ghk22naaaaaabn
        all_goals
        try simp only [go_sem, n1, n2, n3, n4, hk2, ghk22naaaaaaaaan, ghk22naaaaaaaabn, ghk22naaaaaaabn, ghk22naaaaaabn] at ghk22naaaaabn
        all_goals
        try simp only [go_sem, n1, n2, n3, n4, hk2, ghk22naaaaaaaaan, ghk22naaaaaaaabn, ghk22naaaaaaabn, ghk22naaaaaabn, ghk22naaaaabn] at ghk22naaaabn
        all_goals
        try simp only [go_sem, n1, n2, n3, n4, hk2, ghk22naaaaaaaaan, ghk22naaaaaaaabn, ghk22naaaaaaabn, ghk22naaaaaabn, ghk22naaaaabn, ghk22naaaabn] at ghk22naaabn
        all_goals
        try simp only [go_sem, n1, n2, n3, n4, hk2, ghk22naaaaaaaaan, ghk22naaaaaaaabn, ghk22naaaaaaabn, ghk22naaaaaabn, ghk22naaaaabn, ghk22naaaabn, ghk22naaabn] at ghk22naabn
        all_goals
        try simp only [go_sem, n1, n2, n3, n4, hk2, ghk22naaaaaaaaan, ghk22naaaaaaaabn, ghk22naaaaaaabn, ghk22naaaaaabn, ghk22naaaaabn, ghk22naaaabn, ghk22naaabn, ghk22naabn] at ghk22nabna
        all_goals
        try simp only [go_sem, n1, n2, n3, n4, hk2, ghk22naaaaaaaaan, ghk22naaaaaaaabn, ghk22naaaaaaabn, ghk22naaaaaabn, ghk22naaaaabn, ghk22naaaabn, ghk22naaabn, ghk22naabn, ghk22nabna] at ghk22nabnb
        all_goals
        try simp only [go_sem, n1, n2, n3, n4, hk2, ghk22naaaaaaaaan, ghk22naaaaaaaabn, ghk22naaaaaaabn, ghk22naaaaaabn, ghk22naaaaabn, ghk22naaaabn, ghk22naaabn, ghk22naabn, ghk22nabna, ghk22nabnb] at ghk22nbn
        all_goals
        obtain ⟨hk23, h⟩ := ck_some h
        obtain ⟨hk24, h⟩ := ck_some h
        rcases it_some h with ⟨hk25, h⟩ | ⟨hk25, h⟩
        · try simp only [go_sem, n1, n2, n3, n4, hk2, ghk22naaaaaaaaan, ghk22naaaaaaaabn, ghk22naaaaaaabn, ghk22naaaaaabn, ghk22naaaaabn, ghk22naaaabn, ghk22naaabn, ghk22naabn, ghk22nabna, ghk22nabnb, ghk22nbn] at hk25
          all_goals
          obtain rfl := so_some h
          refine ⟨0, fun L hL => ?_⟩
          simp only [go_sem, ir4, fhk1, hk2, fhk3, fhk4, fhk5, fhk6, fhk7, fhk8, fhk9, fhk10, fhk11, fhk12, fhk13, fhk14, fhk15, fhk16, fhk17, fhk18, fhk19, fhk20, fhk21, ghk22naaaaaaaaan, ghk22naaaaaaaabn, ghk22naaaaaaabn, ghk22naaaaaabn, ghk22naaaaabn, ghk22naaaabn, ghk22naaabn, ghk22naabn, ghk22nabna, ghk22nabnb, ghk22nbn, hk25]
        · try simp only [go_sem, n1, n2, n3, n4, hk2, ghk22naaaaaaaaan, ghk22naaaaaaaabn, ghk22naaaaaaabn, ghk22naaaaaabn, ghk22naaaaabn, ghk22naaaabn, ghk22naaabn, ghk22naabn, ghk22nabna, ghk22nabnb, ghk22nbn] at hk25
          all_goals
          (simp_all)


end Go.Proofs.YtbcgbmckojlpjaaDoor
