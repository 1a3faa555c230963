/-
  No cell of these rows narrows 'for every input' (looked for: loops, veiled, ifaces, maps, wideKeys, modest, calm, conditions, laid).
  DERIVED. THE GIVEN ROWS OF THIS SEAT. 2 by the template 'for every input the law returns true; each argument reads behind the call as it read before'; 0 by the template 'total and deterministic' (their statements: YtgbopjgnggdhkaaTotals.lean).
  GIVEN WITH THE SEED: the statements are not yours to turn. If you find one false, say at which input.
  Laid BY PROGRAM, IN A SANDBOX (cutbox-rows.mjs): the forced cells as the released guide's own fill.sh prints them over the translation c593ed22a9df1398… (all of the seat's roots in one cut). By AI agents, Wed Nov 11 2026. No macro, syntax, notation, axiom, sorry.
-/
import Derived.Test.YtgbopjgnggdhkaaChecked
import GoSem.Claim
import GoSem.ClaimJoined
import GoSem.ClaimMapViews
import Derived.JoinedTies
import Derived.KernelRfl
namespace Go.Proofs.Ytgbopjgnggdhkaa
/- THE CELL 'sum', in the pinned program and in every row, IS THE sha256 OF THE DUMP (.gsa) THAT YtgbopjgnggdhkaaProg.lean LOADS. Nothing in Lean hashes anything: it is a label: what it is worth is what the hold of that sum in a sandbox is worth. -/
noncomputable def Try.pinned : Pinned := { name := "ytgbopjgnggdhkaa", sum := "c593ed22a9df1398a79a4763a3dad0a297ae587e33feb0d1d5ec95b37c80b364", checked := Try.checked }
namespace Rows
def none {H : Type} : Left H := { results := [], args := [] }

/-- 'laws.FnExactPackEstimates': WHATEVER THE INPUT: true; the input reads as it did. -/
def fnExactPackEstimatesSpec : ChangeSpec := { name := "fnExactPackEstimates", fn := fun _ => fun
  | [d] => { results := [.lit (.bool true)], args := [d] }
  | _ => none }
def fnExactPackEstimatesRow : OpenClaim := { program := "ytgbopjgnggdhkaa", sum := "c593ed22a9df1398a79a4763a3dad0a297ae587e33feb0d1d5ec95b37c80b364", func := "loop.example/g01026/laws.FnExactPackEstimates", spec := "fnExactPackEstimates", inPlace := ["internal/bytealg.abigen_runtime_cmpstring"], unfollowed := true, recurses := true, apart := false }
def FnExactPackEstimatesSaid : Prop := fnExactPackEstimatesRow.holds Try.pinned (OpenSpec.ofChange fnExactPackEstimatesSpec)

/-- ITS FALSE NEIGHBOUR: 'it returns false'. Refute it at one input. -/
def fnExactPackEstimatesWrong : ChangeSpec := { name := "fnExactPackEstimates", fn := fun _ => fun
  | [d] => { results := [.lit (.bool false)], args := [d] }
  | _ => none }
def FnExactPackEstimatesWrongFalsely : Prop := fnExactPackEstimatesRow.holds Try.pinned (OpenSpec.ofChange fnExactPackEstimatesWrong)

/-- 'laws.FnExactUnpackEstimates': WHATEVER THE INPUT: true; the input reads as it did. -/
def fnExactUnpackEstimatesSpec : ChangeSpec := { name := "fnExactUnpackEstimates", fn := fun _ => fun
  | [d] => { results := [.lit (.bool true)], args := [d] }
  | _ => none }
def fnExactUnpackEstimatesRow : OpenClaim := { program := "ytgbopjgnggdhkaa", sum := "c593ed22a9df1398a79a4763a3dad0a297ae587e33feb0d1d5ec95b37c80b364", func := "loop.example/g01026/laws.FnExactUnpackEstimates", spec := "fnExactUnpackEstimates", inPlace := ["internal/bytealg.abigen_runtime_cmpstring"], unfollowed := true, recurses := true, apart := false }
def FnExactUnpackEstimatesSaid : Prop := fnExactUnpackEstimatesRow.holds Try.pinned (OpenSpec.ofChange fnExactUnpackEstimatesSpec)

/-- ITS FALSE NEIGHBOUR: 'it returns false'. Refute it at one input. -/
def fnExactUnpackEstimatesWrong : ChangeSpec := { name := "fnExactUnpackEstimates", fn := fun _ => fun
  | [d] => { results := [.lit (.bool false)], args := [d] }
  | _ => none }
def FnExactUnpackEstimatesWrongFalsely : Prop := fnExactUnpackEstimatesRow.holds Try.pinned (OpenSpec.ofChange fnExactUnpackEstimatesWrong)

/- THE SECOND FORM. 'bulk': how many values and letters a reading holds, each counted each time it is reached (what is shared counts as often as it is met; a slice's spare places count too). A statement '..UptoSaid' is the law's where the arguments, and the package variables that the reading takes, are together of bulk at most 1048576: NARROWER than '..Said'. Prove '..Said' where nothing that the law and all that it calls make is longer than what came in: it says more and counts as full. Else prove '..UptoSaid'. A law counts once. -/
mutual
def uptoBulk {H : Type} : DataW H → Nat
  | .lit (.string bytes) => bytes.length + 1
  | .lit _ => 1
  | .nil => 1
  | .ptr d => uptoBulk d + 1
  | .slice elems spare => uptoBulkAll elems + uptoBulkAll spare + 1
  | .agg parts => uptoBulkAll parts + 1
  | .iface _ d => uptoBulk d + 1
  | .map entries => uptoBulkEntries entries + 1
  | .held _ => 1
def uptoBulkAll {H : Type} : List (DataW H) → Nat
  | [] => 0
  | d :: r => uptoBulk d + uptoBulkAll r
def uptoBulkEntries {H : Type} : List (Lit × DataW H) → Nat
  | [] => 0
  | x :: r => uptoBulkEntry x + uptoBulkEntries r
def uptoBulkEntry {H : Type} : Lit × DataW H → Nat
  | (.string bytes, d) => bytes.length + uptoBulk d + 1
  | (_, d) => uptoBulk d + 1
 end
def uptoSmall : (H : Type) → List (DataW H) → Bool := fun _ ds => decide (uptoBulkAll ds ≤ 1048576)
def OpenSpec.upto (s : _root_.Go.ChangeSpec) : _root_.Go.OpenSpec := { _root_.Go.OpenSpec.ofChange s with cond := some uptoSmall }

/-- 'laws.FnExactPackEstimates', WHERE WHAT IT READS IS OF BULK AT MOST 1048576: true; the input reads as it did. -/
def fnExactPackEstimatesUptoRow : OpenClaim := { program := "ytgbopjgnggdhkaa", sum := "c593ed22a9df1398a79a4763a3dad0a297ae587e33feb0d1d5ec95b37c80b364", func := "loop.example/g01026/laws.FnExactPackEstimates", spec := "fnExactPackEstimates", inPlace := ["internal/bytealg.abigen_runtime_cmpstring"], unfollowed := true, recurses := true, apart := false, narrowed := true }
def FnExactPackEstimatesUptoSaid : Prop := fnExactPackEstimatesUptoRow.holds Try.pinned (OpenSpec.upto fnExactPackEstimatesSpec)

/-- 'laws.FnExactUnpackEstimates', WHERE WHAT IT READS IS OF BULK AT MOST 1048576: true; the input reads as it did. -/
def fnExactUnpackEstimatesUptoRow : OpenClaim := { program := "ytgbopjgnggdhkaa", sum := "c593ed22a9df1398a79a4763a3dad0a297ae587e33feb0d1d5ec95b37c80b364", func := "loop.example/g01026/laws.FnExactUnpackEstimates", spec := "fnExactUnpackEstimates", inPlace := ["internal/bytealg.abigen_runtime_cmpstring"], unfollowed := true, recurses := true, apart := false, narrowed := true }
def FnExactUnpackEstimatesUptoSaid : Prop := fnExactUnpackEstimatesUptoRow.holds Try.pinned (OpenSpec.upto fnExactUnpackEstimatesSpec)

end Rows
end Go.Proofs.Ytgbopjgnggdhkaa
