/-
  No cell of these rows narrows 'for every input' (looked for: loops, veiled, ifaces, maps, wideKeys, modest, calm, conditions, laid).
  DERIVED. THE GIVEN ROWS OF THIS SEAT. 3 by the template 'for every input the law returns true; each argument reads behind the call as it read before'; 0 by the template 'total and deterministic' (their statements: YtcfjogkgmkagiaaTotals.lean).
  GIVEN WITH THE SEED: the statements are not yours to turn. If you find one false, say at which input.
  Laid BY PROGRAM, IN A SANDBOX (cutbox-rows.mjs): the forced cells as the released guide's own fill.sh prints them over the translation e6fa25e677877c6f… (all of the seat's roots in one cut). By AI agents, Wed Nov 11 2026. No macro, syntax, notation, axiom, sorry.
-/
import Derived.Test.YtcfjogkgmkagiaaChecked
import GoSem.Claim
import GoSem.ClaimJoined
import GoSem.ClaimMapViews
import Derived.JoinedTies
import Derived.KernelRfl
namespace Go.Proofs.Ytcfjogkgmkagiaa
/- THE CELL 'sum', in the pinned program and in every row, IS THE sha256 OF THE DUMP (.gsa) THAT YtcfjogkgmkagiaaProg.lean LOADS. Nothing in Lean hashes anything: it is a label: what it is worth is what the hold of that sum in a sandbox is worth. -/
noncomputable def Try.pinned : Pinned := { name := "ytcfjogkgmkagiaa", sum := "e6fa25e677877c6f3226eaaddcb6eeaa4f6bbe9dbffdce3a6e1c60385b98a327", checked := Try.checked }
namespace Rows
def none {H : Type} : Left H := { results := [], args := [] }

/-- 'laws.FnSampled': WHATEVER THE INPUT: true; the input reads as it did. -/
def fnSampledSpec : ChangeSpec := { name := "fnSampled", fn := fun _ => fun
  | [d] => { results := [.lit (.bool true)], args := [d] }
  | _ => none }
def fnSampledRow : OpenClaim := { program := "ytcfjogkgmkagiaa", sum := "e6fa25e677877c6f3226eaaddcb6eeaa4f6bbe9dbffdce3a6e1c60385b98a327", func := "loop.example/g01026/laws.FnSampled", spec := "fnSampled", unfollowed := true, recurses := true, apart := false }
def FnSampledSaid : Prop := fnSampledRow.holds Try.pinned (OpenSpec.ofChange fnSampledSpec)

/-- ITS FALSE NEIGHBOUR: 'it returns false'. Refute it at one input. -/
def fnSampledWrong : ChangeSpec := { name := "fnSampled", fn := fun _ => fun
  | [d] => { results := [.lit (.bool false)], args := [d] }
  | _ => none }
def FnSampledWrongFalsely : Prop := fnSampledRow.holds Try.pinned (OpenSpec.ofChange fnSampledWrong)

/-- 'laws.FnAgainst': WHATEVER THE INPUT: true; the input reads as it did. -/
def fnAgainstSpec : ChangeSpec := { name := "fnAgainst", fn := fun _ => fun
  | [d1, d2] => { results := [.lit (.bool true)], args := [d1, d2] }
  | _ => none }
def fnAgainstRow : OpenClaim := { program := "ytcfjogkgmkagiaa", sum := "e6fa25e677877c6f3226eaaddcb6eeaa4f6bbe9dbffdce3a6e1c60385b98a327", func := "loop.example/g01026/laws.FnAgainst", spec := "fnAgainst", inPlace := ["internal/bytealg.abigen_runtime_cmpstring"], unfollowed := true, recurses := true, apart := false }
def FnAgainstSaid : Prop := fnAgainstRow.holds Try.pinned (OpenSpec.ofChange fnAgainstSpec)

/-- ITS FALSE NEIGHBOUR: 'it returns false'. Refute it at one input. -/
def fnAgainstWrong : ChangeSpec := { name := "fnAgainst", fn := fun _ => fun
  | [d1, d2] => { results := [.lit (.bool false)], args := [d1, d2] }
  | _ => none }
def FnAgainstWrongFalsely : Prop := fnAgainstRow.holds Try.pinned (OpenSpec.ofChange fnAgainstWrong)

/-- 'laws.FnBytes': WHATEVER THE INPUT: true; the input reads as it did. -/
def fnBytesSpec : ChangeSpec := { name := "fnBytes", fn := fun _ => fun
  | [d] => { results := [.lit (.bool true)], args := [d] }
  | _ => none }
def fnBytesRow : OpenClaim := { program := "ytcfjogkgmkagiaa", sum := "e6fa25e677877c6f3226eaaddcb6eeaa4f6bbe9dbffdce3a6e1c60385b98a327", func := "loop.example/g01026/laws.FnBytes", spec := "fnBytes", inPlace := ["internal/bytealg.IndexByteString"], apart := false }
def FnBytesSaid : Prop := fnBytesRow.holds Try.pinned (OpenSpec.ofChange fnBytesSpec)

/-- ITS FALSE NEIGHBOUR: 'it returns false'. Refute it at one input. -/
def fnBytesWrong : ChangeSpec := { name := "fnBytes", fn := fun _ => fun
  | [d] => { results := [.lit (.bool false)], args := [d] }
  | _ => none }
def FnBytesWrongFalsely : Prop := fnBytesRow.holds Try.pinned (OpenSpec.ofChange fnBytesWrong)

/- THE SECOND FORM. 'bulk': how many values and letters a reading holds, each counted each time it is reached (what is shared counts as often as it is met; a slice's spare places count too). A statement '..UptoSaid' is the law's where the arguments, and the package variables that the reading takes, are together of bulk at most 1048576: NARROWER than '..Said'. Prove '..Said' where nothing that the law and all that it calls make is longer than what came in: it says more and counts as full. Else prove '..UptoSaid'. A law counts once. -/
mutual
def uptoBulk {H : Type} : DataW H → Nat
  | .lit (.string bytes) => bytes.length + 1
  | .lit _ => 1
  | .nil => 1
  | .ptr d => uptoBulk d + 1
  | .slice elems spare => uptoBulkAll elems + uptoBulkAll spare + 1
  | .agg parts => uptoBulkAll parts + 1
  | .iface _ d => uptoBulk d + 1
  | .map entries => uptoBulkEntries entries + 1
  | .held _ => 1
def uptoBulkAll {H : Type} : List (DataW H) → Nat
  | [] => 0
  | d :: r => uptoBulk d + uptoBulkAll r
def uptoBulkEntries {H : Type} : List (Lit × DataW H) → Nat
  | [] => 0
  | x :: r => uptoBulkEntry x + uptoBulkEntries r
def uptoBulkEntry {H : Type} : Lit × DataW H → Nat
  | (.string bytes, d) => bytes.length + uptoBulk d + 1
  | (_, d) => uptoBulk d + 1
 end
def uptoSmall : (H : Type) → List (DataW H) → Bool := fun _ ds => decide (uptoBulkAll ds ≤ 1048576)
def OpenSpec.upto (s : _root_.Go.ChangeSpec) : _root_.Go.OpenSpec := { _root_.Go.OpenSpec.ofChange s with cond := some uptoSmall }

/-- 'laws.FnSampled', WHERE WHAT IT READS IS OF BULK AT MOST 1048576: true; the input reads as it did. -/
def fnSampledUptoRow : OpenClaim := { program := "ytcfjogkgmkagiaa", sum := "e6fa25e677877c6f3226eaaddcb6eeaa4f6bbe9dbffdce3a6e1c60385b98a327", func := "loop.example/g01026/laws.FnSampled", spec := "fnSampled", unfollowed := true, recurses := true, apart := false, narrowed := true }
def FnSampledUptoSaid : Prop := fnSampledUptoRow.holds Try.pinned (OpenSpec.upto fnSampledSpec)

/-- 'laws.FnAgainst', WHERE WHAT IT READS IS OF BULK AT MOST 1048576: true; the input reads as it did. -/
def fnAgainstUptoRow : OpenClaim := { program := "ytcfjogkgmkagiaa", sum := "e6fa25e677877c6f3226eaaddcb6eeaa4f6bbe9dbffdce3a6e1c60385b98a327", func := "loop.example/g01026/laws.FnAgainst", spec := "fnAgainst", inPlace := ["internal/bytealg.abigen_runtime_cmpstring"], unfollowed := true, recurses := true, apart := false, narrowed := true }
def FnAgainstUptoSaid : Prop := fnAgainstUptoRow.holds Try.pinned (OpenSpec.upto fnAgainstSpec)

/-- 'laws.FnBytes', WHERE WHAT IT READS IS OF BULK AT MOST 1048576: true; the input reads as it did. -/
def fnBytesUptoRow : OpenClaim := { program := "ytcfjogkgmkagiaa", sum := "e6fa25e677877c6f3226eaaddcb6eeaa4f6bbe9dbffdce3a6e1c60385b98a327", func := "loop.example/g01026/laws.FnBytes", spec := "fnBytes", inPlace := ["internal/bytealg.IndexByteString"], apart := false, narrowed := true }
def FnBytesUptoSaid : Prop := fnBytesUptoRow.holds Try.pinned (OpenSpec.upto fnBytesSpec)

end Rows
end Go.Proofs.Ytcfjogkgmkagiaa
