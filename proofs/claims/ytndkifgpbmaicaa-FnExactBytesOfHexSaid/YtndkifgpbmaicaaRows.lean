/-
  No cell of these rows narrows 'for every input' (looked for: loops, veiled, ifaces, maps, wideKeys, modest, calm, conditions, laid).
  DERIVED. THE GIVEN ROWS OF THIS SEAT. 4 by the template 'for every input the law returns true; each argument reads behind the call as it read before'; 0 by the template 'total and deterministic' (their statements: YtndkifgpbmaicaaTotals.lean).
  GIVEN WITH THE SEED: the statements are not yours to turn. If you find one false, say at which input.
  Laid BY PROGRAM, IN A SANDBOX (cutbox-rows.mjs): the forced cells as the released guide's own fill.sh prints them over the translation 6f562c1031414c2c… (all of the seat's roots in one cut). By AI agents, Wed Nov 11 2026. No macro, syntax, notation, axiom, sorry.
-/
import Derived.Test.YtndkifgpbmaicaaChecked
import GoSem.Claim
import GoSem.ClaimJoined
import GoSem.ClaimMapViews
import Derived.JoinedTies
import Derived.KernelRfl
namespace Go.Proofs.Ytndkifgpbmaicaa
/- THE CELL 'sum', in the pinned program and in every row, IS THE sha256 OF THE DUMP (.gsa) THAT YtndkifgpbmaicaaProg.lean LOADS. Nothing in Lean hashes anything: it is a label: what it is worth is what the hold of that sum in a sandbox is worth. -/
noncomputable def Try.pinned : Pinned := { name := "ytndkifgpbmaicaa", sum := "6f562c1031414c2cb8423268a93ea9e19f19f2e2f665faefb8e33c48bc25b570", checked := Try.checked }
namespace Rows
def none {H : Type} : Left H := { results := [], args := [] }

/-- 'laws.FnExactKindOfPacked': WHATEVER THE INPUT: true; the input reads as it did. -/
def fnExactKindOfPackedSpec : ChangeSpec := { name := "fnExactKindOfPacked", fn := fun _ => fun
  | [d] => { results := [.lit (.bool true)], args := [d] }
  | _ => none }
def fnExactKindOfPackedRow : OpenClaim := { program := "ytndkifgpbmaicaa", sum := "6f562c1031414c2cb8423268a93ea9e19f19f2e2f665faefb8e33c48bc25b570", func := "loop.example/g01026/laws.FnExactKindOfPacked", spec := "fnExactKindOfPacked", unfollowed := true, recurses := true, apart := false }
def FnExactKindOfPackedSaid : Prop := fnExactKindOfPackedRow.holds Try.pinned (OpenSpec.ofChange fnExactKindOfPackedSpec)

/-- ITS FALSE NEIGHBOUR: 'it returns false'. Refute it at one input. -/
def fnExactKindOfPackedWrong : ChangeSpec := { name := "fnExactKindOfPacked", fn := fun _ => fun
  | [d] => { results := [.lit (.bool false)], args := [d] }
  | _ => none }
def FnExactKindOfPackedWrongFalsely : Prop := fnExactKindOfPackedRow.holds Try.pinned (OpenSpec.ofChange fnExactKindOfPackedWrong)

/-- 'laws.FnExactBytesOfHex': WHATEVER THE INPUT: true; the input reads as it did. -/
def fnExactBytesOfHexSpec : ChangeSpec := { name := "fnExactBytesOfHex", fn := fun _ => fun
  | [d] => { results := [.lit (.bool true)], args := [d] }
  | _ => none }
def fnExactBytesOfHexRow : OpenClaim := { program := "ytndkifgpbmaicaa", sum := "6f562c1031414c2cb8423268a93ea9e19f19f2e2f665faefb8e33c48bc25b570", func := "loop.example/g01026/laws.FnExactBytesOfHex", spec := "fnExactBytesOfHex", inPlace := ["internal/bytealg.IndexByteString"], apart := false }
def FnExactBytesOfHexSaid : Prop := fnExactBytesOfHexRow.holds Try.pinned (OpenSpec.ofChange fnExactBytesOfHexSpec)

/-- ITS FALSE NEIGHBOUR: 'it returns false'. Refute it at one input. -/
def fnExactBytesOfHexWrong : ChangeSpec := { name := "fnExactBytesOfHex", fn := fun _ => fun
  | [d] => { results := [.lit (.bool false)], args := [d] }
  | _ => none }
def FnExactBytesOfHexWrongFalsely : Prop := fnExactBytesOfHexRow.holds Try.pinned (OpenSpec.ofChange fnExactBytesOfHexWrong)

/-- 'laws.FnExactPackCurve': WHATEVER THE INPUT: true; the input reads as it did. -/
def fnExactPackCurveSpec : ChangeSpec := { name := "fnExactPackCurve", fn := fun _ => fun
  | [d] => { results := [.lit (.bool true)], args := [d] }
  | _ => none }
def fnExactPackCurveRow : OpenClaim := { program := "ytndkifgpbmaicaa", sum := "6f562c1031414c2cb8423268a93ea9e19f19f2e2f665faefb8e33c48bc25b570", func := "loop.example/g01026/laws.FnExactPackCurve", spec := "fnExactPackCurve", apart := false }
def FnExactPackCurveSaid : Prop := fnExactPackCurveRow.holds Try.pinned (OpenSpec.ofChange fnExactPackCurveSpec)

/-- ITS FALSE NEIGHBOUR: 'it returns false'. Refute it at one input. -/
def fnExactPackCurveWrong : ChangeSpec := { name := "fnExactPackCurve", fn := fun _ => fun
  | [d] => { results := [.lit (.bool false)], args := [d] }
  | _ => none }
def FnExactPackCurveWrongFalsely : Prop := fnExactPackCurveRow.holds Try.pinned (OpenSpec.ofChange fnExactPackCurveWrong)

/-- 'laws.FnExactSameDesk': WHATEVER THE INPUT: true; the input reads as it did. -/
def fnExactSameDeskSpec : ChangeSpec := { name := "fnExactSameDesk", fn := fun _ => fun
  | [d1, d2] => { results := [.lit (.bool true)], args := [d1, d2] }
  | _ => none }
def fnExactSameDeskRow : OpenClaim := { program := "ytndkifgpbmaicaa", sum := "6f562c1031414c2cb8423268a93ea9e19f19f2e2f665faefb8e33c48bc25b570", func := "loop.example/g01026/laws.FnExactSameDesk", spec := "fnExactSameDesk", apart := false }
def FnExactSameDeskSaid : Prop := fnExactSameDeskRow.holds Try.pinned (OpenSpec.ofChange fnExactSameDeskSpec)

/-- ITS FALSE NEIGHBOUR: 'it returns false'. Refute it at one input. -/
def fnExactSameDeskWrong : ChangeSpec := { name := "fnExactSameDesk", fn := fun _ => fun
  | [d1, d2] => { results := [.lit (.bool false)], args := [d1, d2] }
  | _ => none }
def FnExactSameDeskWrongFalsely : Prop := fnExactSameDeskRow.holds Try.pinned (OpenSpec.ofChange fnExactSameDeskWrong)

/- THE SECOND FORM. 'bulk': how many values and letters a reading holds, each counted each time it is reached (what is shared counts as often as it is met; a slice's spare places count too). A statement '..UptoSaid' is the law's where the arguments, and the package variables that the reading takes, are together of bulk at most 1048576: NARROWER than '..Said'. Prove '..Said' where nothing that the law and all that it calls make is longer than what came in: it says more and counts as full. Else prove '..UptoSaid'. A law counts once. -/
mutual
def uptoBulk {H : Type} : DataW H → Nat
  | .lit (.string bytes) => bytes.length + 1
  | .lit _ => 1
  | .nil => 1
  | .ptr d => uptoBulk d + 1
  | .slice elems spare => uptoBulkAll elems + uptoBulkAll spare + 1
  | .agg parts => uptoBulkAll parts + 1
  | .iface _ d => uptoBulk d + 1
  | .map entries => uptoBulkEntries entries + 1
  | .held _ => 1
def uptoBulkAll {H : Type} : List (DataW H) → Nat
  | [] => 0
  | d :: r => uptoBulk d + uptoBulkAll r
def uptoBulkEntries {H : Type} : List (Lit × DataW H) → Nat
  | [] => 0
  | x :: r => uptoBulkEntry x + uptoBulkEntries r
def uptoBulkEntry {H : Type} : Lit × DataW H → Nat
  | (.string bytes, d) => bytes.length + uptoBulk d + 1
  | (_, d) => uptoBulk d + 1
 end
def uptoSmall : (H : Type) → List (DataW H) → Bool := fun _ ds => decide (uptoBulkAll ds ≤ 1048576)
def OpenSpec.upto (s : _root_.Go.ChangeSpec) : _root_.Go.OpenSpec := { _root_.Go.OpenSpec.ofChange s with cond := some uptoSmall }

/-- 'laws.FnExactKindOfPacked', WHERE WHAT IT READS IS OF BULK AT MOST 1048576: true; the input reads as it did. -/
def fnExactKindOfPackedUptoRow : OpenClaim := { program := "ytndkifgpbmaicaa", sum := "6f562c1031414c2cb8423268a93ea9e19f19f2e2f665faefb8e33c48bc25b570", func := "loop.example/g01026/laws.FnExactKindOfPacked", spec := "fnExactKindOfPacked", unfollowed := true, recurses := true, apart := false, narrowed := true }
def FnExactKindOfPackedUptoSaid : Prop := fnExactKindOfPackedUptoRow.holds Try.pinned (OpenSpec.upto fnExactKindOfPackedSpec)

/-- 'laws.FnExactBytesOfHex', WHERE WHAT IT READS IS OF BULK AT MOST 1048576: true; the input reads as it did. -/
def fnExactBytesOfHexUptoRow : OpenClaim := { program := "ytndkifgpbmaicaa", sum := "6f562c1031414c2cb8423268a93ea9e19f19f2e2f665faefb8e33c48bc25b570", func := "loop.example/g01026/laws.FnExactBytesOfHex", spec := "fnExactBytesOfHex", inPlace := ["internal/bytealg.IndexByteString"], apart := false, narrowed := true }
def FnExactBytesOfHexUptoSaid : Prop := fnExactBytesOfHexUptoRow.holds Try.pinned (OpenSpec.upto fnExactBytesOfHexSpec)

/-- 'laws.FnExactPackCurve', WHERE WHAT IT READS IS OF BULK AT MOST 1048576: true; the input reads as it did. -/
def fnExactPackCurveUptoRow : OpenClaim := { program := "ytndkifgpbmaicaa", sum := "6f562c1031414c2cb8423268a93ea9e19f19f2e2f665faefb8e33c48bc25b570", func := "loop.example/g01026/laws.FnExactPackCurve", spec := "fnExactPackCurve", apart := false, narrowed := true }
def FnExactPackCurveUptoSaid : Prop := fnExactPackCurveUptoRow.holds Try.pinned (OpenSpec.upto fnExactPackCurveSpec)

/-- 'laws.FnExactSameDesk', WHERE WHAT IT READS IS OF BULK AT MOST 1048576: true; the input reads as it did. -/
def fnExactSameDeskUptoRow : OpenClaim := { program := "ytndkifgpbmaicaa", sum := "6f562c1031414c2cb8423268a93ea9e19f19f2e2f665faefb8e33c48bc25b570", func := "loop.example/g01026/laws.FnExactSameDesk", spec := "fnExactSameDesk", apart := false, narrowed := true }
def FnExactSameDeskUptoSaid : Prop := fnExactSameDeskUptoRow.holds Try.pinned (OpenSpec.upto fnExactSameDeskSpec)

end Rows
end Go.Proofs.Ytndkifgpbmaicaa
