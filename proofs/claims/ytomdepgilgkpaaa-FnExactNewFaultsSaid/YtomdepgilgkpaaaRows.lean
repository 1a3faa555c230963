/-
  No cell of these rows narrows 'for every input' (looked for: loops, veiled, ifaces, maps, wideKeys, modest, calm, conditions, laid).
  DERIVED. THE GIVEN ROWS OF THIS SEAT. 4 by the template 'for every input the law returns true; each argument reads behind the call as it read before'; 0 by the template 'total and deterministic' (their statements: YtomdepgilgkpaaaTotals.lean).
  GIVEN WITH THE SEED: the statements are not yours to turn. If you find one false, say at which input.
  Laid BY PROGRAM, IN A SANDBOX (cutbox-rows.mjs): the forced cells as the released guide's own fill.sh prints them over the translation 3dae593d15080a61… (all of the seat's roots in one cut). By AI agents, Wed Nov 11 2026. No macro, syntax, notation, axiom, sorry.
-/
import Derived.Test.YtomdepgilgkpaaaChecked
import GoSem.Claim
import GoSem.ClaimJoined
import GoSem.ClaimMapViews
import Derived.JoinedTies
import Derived.KernelRfl
namespace Go.Proofs.Ytomdepgilgkpaaa
/- THE CELL 'sum', in the pinned program and in every row, IS THE sha256 OF THE DUMP (.gsa) THAT YtomdepgilgkpaaaProg.lean LOADS. Nothing in Lean hashes anything: it is a label: what it is worth is what the hold of that sum in a sandbox is worth. -/
noncomputable def Try.pinned : Pinned := { name := "ytomdepgilgkpaaa", sum := "3dae593d15080a61e9bd85f7d7e23f0e0c671ce080ae6a70ecdc285eee05312b", checked := Try.checked }
namespace Rows
def none {H : Type} : Left H := { results := [], args := [] }

/-- 'laws.FnExactNumberBytes': WHATEVER THE INPUT: true; the input reads as it did. -/
def fnExactNumberBytesSpec : ChangeSpec := { name := "fnExactNumberBytes", fn := fun _ => fun
  | [d] => { results := [.lit (.bool true)], args := [d] }
  | _ => none }
def fnExactNumberBytesRow : OpenClaim := { program := "ytomdepgilgkpaaa", sum := "3dae593d15080a61e9bd85f7d7e23f0e0c671ce080ae6a70ecdc285eee05312b", func := "loop.example/g01026/laws.FnExactNumberBytes", spec := "fnExactNumberBytes", apart := false }
def FnExactNumberBytesSaid : Prop := fnExactNumberBytesRow.holds Try.pinned (OpenSpec.ofChange fnExactNumberBytesSpec)

/-- ITS FALSE NEIGHBOUR: 'it returns false'. Refute it at one input. -/
def fnExactNumberBytesWrong : ChangeSpec := { name := "fnExactNumberBytes", fn := fun _ => fun
  | [d] => { results := [.lit (.bool false)], args := [d] }
  | _ => none }
def FnExactNumberBytesWrongFalsely : Prop := fnExactNumberBytesRow.holds Try.pinned (OpenSpec.ofChange fnExactNumberBytesWrong)

/-- 'laws.FnExactSampleOf': WHATEVER THE INPUT: true; the input reads as it did. -/
def fnExactSampleOfSpec : ChangeSpec := { name := "fnExactSampleOf", fn := fun _ => fun
  | [d1, d2, d3] => { results := [.lit (.bool true)], args := [d1, d2, d3] }
  | _ => none }
def fnExactSampleOfRow : OpenClaim := { program := "ytomdepgilgkpaaa", sum := "3dae593d15080a61e9bd85f7d7e23f0e0c671ce080ae6a70ecdc285eee05312b", func := "loop.example/g01026/laws.FnExactSampleOf", spec := "fnExactSampleOf", apart := false }
def FnExactSampleOfSaid : Prop := fnExactSampleOfRow.holds Try.pinned (OpenSpec.ofChange fnExactSampleOfSpec)

/-- ITS FALSE NEIGHBOUR: 'it returns false'. Refute it at one input. -/
def fnExactSampleOfWrong : ChangeSpec := { name := "fnExactSampleOf", fn := fun _ => fun
  | [d1, d2, d3] => { results := [.lit (.bool false)], args := [d1, d2, d3] }
  | _ => none }
def FnExactSampleOfWrongFalsely : Prop := fnExactSampleOfRow.holds Try.pinned (OpenSpec.ofChange fnExactSampleOfWrong)

/-- 'laws.FnExactCountFaults': WHATEVER THE INPUT: true; the input reads as it did. -/
def fnExactCountFaultsSpec : ChangeSpec := { name := "fnExactCountFaults", fn := fun _ => fun
  | [d] => { results := [.lit (.bool true)], args := [d] }
  | _ => none }
def fnExactCountFaultsRow : OpenClaim := { program := "ytomdepgilgkpaaa", sum := "3dae593d15080a61e9bd85f7d7e23f0e0c671ce080ae6a70ecdc285eee05312b", func := "loop.example/g01026/laws.FnExactCountFaults", spec := "fnExactCountFaults", apart := false }
def FnExactCountFaultsSaid : Prop := fnExactCountFaultsRow.holds Try.pinned (OpenSpec.ofChange fnExactCountFaultsSpec)

/-- ITS FALSE NEIGHBOUR: 'it returns false'. Refute it at one input. -/
def fnExactCountFaultsWrong : ChangeSpec := { name := "fnExactCountFaults", fn := fun _ => fun
  | [d] => { results := [.lit (.bool false)], args := [d] }
  | _ => none }
def FnExactCountFaultsWrongFalsely : Prop := fnExactCountFaultsRow.holds Try.pinned (OpenSpec.ofChange fnExactCountFaultsWrong)

/-- 'laws.FnExactNewFaults': WHATEVER THE INPUT: true; the input reads as it did. -/
def fnExactNewFaultsSpec : ChangeSpec := { name := "fnExactNewFaults", fn := fun _ => fun
  | [d1, d2] => { results := [.lit (.bool true)], args := [d1, d2] }
  | _ => none }
def fnExactNewFaultsRow : OpenClaim := { program := "ytomdepgilgkpaaa", sum := "3dae593d15080a61e9bd85f7d7e23f0e0c671ce080ae6a70ecdc285eee05312b", func := "loop.example/g01026/laws.FnExactNewFaults", spec := "fnExactNewFaults", unfollowed := true, recurses := true, apart := false }
def FnExactNewFaultsSaid : Prop := fnExactNewFaultsRow.holds Try.pinned (OpenSpec.ofChange fnExactNewFaultsSpec)

/-- ITS FALSE NEIGHBOUR: 'it returns false'. Refute it at one input. -/
def fnExactNewFaultsWrong : ChangeSpec := { name := "fnExactNewFaults", fn := fun _ => fun
  | [d1, d2] => { results := [.lit (.bool false)], args := [d1, d2] }
  | _ => none }
def FnExactNewFaultsWrongFalsely : Prop := fnExactNewFaultsRow.holds Try.pinned (OpenSpec.ofChange fnExactNewFaultsWrong)

/- THE SECOND FORM. 'bulk': how many values and letters a reading holds, each counted each time it is reached (what is shared counts as often as it is met; a slice's spare places count too). A statement '..UptoSaid' is the law's where the arguments, and the package variables that the reading takes, are together of bulk at most 1048576: NARROWER than '..Said'. Prove '..Said' where nothing that the law and all that it calls make is longer than what came in: it says more and counts as full. Else prove '..UptoSaid'. A law counts once. -/
mutual
def uptoBulk {H : Type} : DataW H → Nat
  | .lit (.string bytes) => bytes.length + 1
  | .lit _ => 1
  | .nil => 1
  | .ptr d => uptoBulk d + 1
  | .slice elems spare => uptoBulkAll elems + uptoBulkAll spare + 1
  | .agg parts => uptoBulkAll parts + 1
  | .iface _ d => uptoBulk d + 1
  | .map entries => uptoBulkEntries entries + 1
  | .held _ => 1
def uptoBulkAll {H : Type} : List (DataW H) → Nat
  | [] => 0
  | d :: r => uptoBulk d + uptoBulkAll r
def uptoBulkEntries {H : Type} : List (Lit × DataW H) → Nat
  | [] => 0
  | x :: r => uptoBulkEntry x + uptoBulkEntries r
def uptoBulkEntry {H : Type} : Lit × DataW H → Nat
  | (.string bytes, d) => bytes.length + uptoBulk d + 1
  | (_, d) => uptoBulk d + 1
 end
def uptoSmall : (H : Type) → List (DataW H) → Bool := fun _ ds => decide (uptoBulkAll ds ≤ 1048576)
def OpenSpec.upto (s : _root_.Go.ChangeSpec) : _root_.Go.OpenSpec := { _root_.Go.OpenSpec.ofChange s with cond := some uptoSmall }

/-- 'laws.FnExactNumberBytes', WHERE WHAT IT READS IS OF BULK AT MOST 1048576: true; the input reads as it did. -/
def fnExactNumberBytesUptoRow : OpenClaim := { program := "ytomdepgilgkpaaa", sum := "3dae593d15080a61e9bd85f7d7e23f0e0c671ce080ae6a70ecdc285eee05312b", func := "loop.example/g01026/laws.FnExactNumberBytes", spec := "fnExactNumberBytes", apart := false, narrowed := true }
def FnExactNumberBytesUptoSaid : Prop := fnExactNumberBytesUptoRow.holds Try.pinned (OpenSpec.upto fnExactNumberBytesSpec)

/-- 'laws.FnExactSampleOf', WHERE WHAT IT READS IS OF BULK AT MOST 1048576: true; the input reads as it did. -/
def fnExactSampleOfUptoRow : OpenClaim := { program := "ytomdepgilgkpaaa", sum := "3dae593d15080a61e9bd85f7d7e23f0e0c671ce080ae6a70ecdc285eee05312b", func := "loop.example/g01026/laws.FnExactSampleOf", spec := "fnExactSampleOf", apart := false, narrowed := true }
def FnExactSampleOfUptoSaid : Prop := fnExactSampleOfUptoRow.holds Try.pinned (OpenSpec.upto fnExactSampleOfSpec)

/-- 'laws.FnExactCountFaults', WHERE WHAT IT READS IS OF BULK AT MOST 1048576: true; the input reads as it did. -/
def fnExactCountFaultsUptoRow : OpenClaim := { program := "ytomdepgilgkpaaa", sum := "3dae593d15080a61e9bd85f7d7e23f0e0c671ce080ae6a70ecdc285eee05312b", func := "loop.example/g01026/laws.FnExactCountFaults", spec := "fnExactCountFaults", apart := false, narrowed := true }
def FnExactCountFaultsUptoSaid : Prop := fnExactCountFaultsUptoRow.holds Try.pinned (OpenSpec.upto fnExactCountFaultsSpec)

/-- 'laws.FnExactNewFaults', WHERE WHAT IT READS IS OF BULK AT MOST 1048576: true; the input reads as it did. -/
def fnExactNewFaultsUptoRow : OpenClaim := { program := "ytomdepgilgkpaaa", sum := "3dae593d15080a61e9bd85f7d7e23f0e0c671ce080ae6a70ecdc285eee05312b", func := "loop.example/g01026/laws.FnExactNewFaults", spec := "fnExactNewFaults", unfollowed := true, recurses := true, apart := false, narrowed := true }
def FnExactNewFaultsUptoSaid : Prop := fnExactNewFaultsUptoRow.holds Try.pinned (OpenSpec.upto fnExactNewFaultsSpec)

end Rows
end Go.Proofs.Ytomdepgilgkpaaa
