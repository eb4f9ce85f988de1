/-
  No cell of these rows narrows 'for every input' (looked for: loops, veiled, ifaces, maps, wideKeys, modest, calm, conditions, laid).
  DERIVED. THE GIVEN ROWS OF THIS SEAT. 3 by the template 'for every input the law returns true; each argument reads behind the call as it read before'; 0 by the template 'total and deterministic' (their statements: YtdepmcofnlggaaaTotals.lean).
  GIVEN WITH THE SEED: the statements are not yours to turn. If you find one false, say at which input.
  Laid BY PROGRAM, IN A SANDBOX (cutbox-rows.mjs): the forced cells as the released guide's own fill.sh prints them over the translation 7612b31624a413f8… (all of the seat's roots in one cut). By AI agents, Wed Nov 11 2026. No macro, syntax, notation, axiom, sorry.
-/
import Derived.Test.YtdepmcofnlggaaaChecked
import GoSem.Claim
import GoSem.ClaimJoined
import GoSem.ClaimMapViews
import Derived.JoinedTies
import Derived.KernelRfl
namespace Go.Proofs.Ytdepmcofnlggaaa
/- THE CELL 'sum', in the pinned program and in every row, IS THE sha256 OF THE DUMP (.gsa) THAT YtdepmcofnlggaaaProg.lean LOADS. Nothing in Lean hashes anything: it is a label: what it is worth is what the hold of that sum in a sandbox is worth. -/
noncomputable def Try.pinned : Pinned := { name := "ytdepmcofnlggaaa", sum := "7612b31624a413f8c1f3653121519db91005fc28ce48e1f5d3679665ceb8d33e", checked := Try.checked }
namespace Rows
def none {H : Type} : Left H := { results := [], args := [] }

/-- 'bursarlaw22.ResolverCycles': WHATEVER THE INPUT: true; the input reads as it did. -/
def resolverCyclesSpec : ChangeSpec := { name := "resolverCycles", fn := fun _ => fun
  | [d] => { results := [.lit (.bool true)], args := [d] }
  | _ => none }
def resolverCyclesRow : OpenClaim := { program := "ytdepmcofnlggaaa", sum := "7612b31624a413f8c1f3653121519db91005fc28ce48e1f5d3679665ceb8d33e", func := "bursar/bursarlaw22.ResolverCycles", spec := "resolverCycles", unfollowed := true, recurses := true, plainKeys := false, apart := false }
def ResolverCyclesSaid : Prop := resolverCyclesRow.holds Try.pinned (OpenSpec.ofChange resolverCyclesSpec)

/-- ITS FALSE NEIGHBOUR: 'it returns false'. Refute it at one input. -/
def resolverCyclesWrong : ChangeSpec := { name := "resolverCycles", fn := fun _ => fun
  | [d] => { results := [.lit (.bool false)], args := [d] }
  | _ => none }
def ResolverCyclesWrongFalsely : Prop := resolverCyclesRow.holds Try.pinned (OpenSpec.ofChange resolverCyclesWrong)

/-- 'bursarlaw22.ResolverStates': WHATEVER THE INPUT: true; the input reads as it did. -/
def resolverStatesSpec : ChangeSpec := { name := "resolverStates", fn := fun _ => fun
  | [d] => { results := [.lit (.bool true)], args := [d] }
  | _ => none }
def resolverStatesRow : OpenClaim := { program := "ytdepmcofnlggaaa", sum := "7612b31624a413f8c1f3653121519db91005fc28ce48e1f5d3679665ceb8d33e", func := "bursar/bursarlaw22.ResolverStates", spec := "resolverStates", unfollowed := true, recurses := true, plainKeys := false, apart := false }
def ResolverStatesSaid : Prop := resolverStatesRow.holds Try.pinned (OpenSpec.ofChange resolverStatesSpec)

/-- ITS FALSE NEIGHBOUR: 'it returns false'. Refute it at one input. -/
def resolverStatesWrong : ChangeSpec := { name := "resolverStates", fn := fun _ => fun
  | [d] => { results := [.lit (.bool false)], args := [d] }
  | _ => none }
def ResolverStatesWrongFalsely : Prop := resolverStatesRow.holds Try.pinned (OpenSpec.ofChange resolverStatesWrong)

/-- 'bursarlaw22.ResolverRounds': WHATEVER THE INPUT: true; the input reads as it did. -/
def resolverRoundsSpec : ChangeSpec := { name := "resolverRounds", fn := fun _ => fun
  | [d] => { results := [.lit (.bool true)], args := [d] }
  | _ => none }
def resolverRoundsRow : OpenClaim := { program := "ytdepmcofnlggaaa", sum := "7612b31624a413f8c1f3653121519db91005fc28ce48e1f5d3679665ceb8d33e", func := "bursar/bursarlaw22.ResolverRounds", spec := "resolverRounds", unfollowed := true, recurses := true, plainKeys := false, apart := false }
def ResolverRoundsSaid : Prop := resolverRoundsRow.holds Try.pinned (OpenSpec.ofChange resolverRoundsSpec)

/-- ITS FALSE NEIGHBOUR: 'it returns false'. Refute it at one input. -/
def resolverRoundsWrong : ChangeSpec := { name := "resolverRounds", fn := fun _ => fun
  | [d] => { results := [.lit (.bool false)], args := [d] }
  | _ => none }
def ResolverRoundsWrongFalsely : Prop := resolverRoundsRow.holds Try.pinned (OpenSpec.ofChange resolverRoundsWrong)

/- THE SECOND FORM. 'bulk': how many values and letters a reading holds, each counted each time it is reached (what is shared counts as often as it is met; a slice's spare places count too). A statement '..UptoSaid' is the law's where the arguments, and the package variables that the reading takes, are together of bulk at most 1048576: NARROWER than '..Said'. Prove '..Said' where nothing that the law and all that it calls make is longer than what came in: it says more and counts as full. Else prove '..UptoSaid'. A law counts once. -/
mutual
def uptoBulk {H : Type} : DataW H → Nat
  | .lit (.string bytes) => bytes.length + 1
  | .lit _ => 1
  | .nil => 1
  | .ptr d => uptoBulk d + 1
  | .slice elems spare => uptoBulkAll elems + uptoBulkAll spare + 1
  | .agg parts => uptoBulkAll parts + 1
  | .iface _ d => uptoBulk d + 1
  | .map entries => uptoBulkEntries entries + 1
  | .held _ => 1
def uptoBulkAll {H : Type} : List (DataW H) → Nat
  | [] => 0
  | d :: r => uptoBulk d + uptoBulkAll r
def uptoBulkEntries {H : Type} : List (Lit × DataW H) → Nat
  | [] => 0
  | x :: r => uptoBulkEntry x + uptoBulkEntries r
def uptoBulkEntry {H : Type} : Lit × DataW H → Nat
  | (.string bytes, d) => bytes.length + uptoBulk d + 1
  | (_, d) => uptoBulk d + 1
 end
def uptoSmall : (H : Type) → List (DataW H) → Bool := fun _ ds => decide (uptoBulkAll ds ≤ 1048576)
def OpenSpec.upto (s : _root_.Go.ChangeSpec) : _root_.Go.OpenSpec := { _root_.Go.OpenSpec.ofChange s with cond := some uptoSmall }

/-- 'bursarlaw22.ResolverCycles', WHERE WHAT IT READS IS OF BULK AT MOST 1048576: true; the input reads as it did. -/
def resolverCyclesUptoRow : OpenClaim := { program := "ytdepmcofnlggaaa", sum := "7612b31624a413f8c1f3653121519db91005fc28ce48e1f5d3679665ceb8d33e", func := "bursar/bursarlaw22.ResolverCycles", spec := "resolverCycles", unfollowed := true, recurses := true, plainKeys := false, apart := false, narrowed := true }
def ResolverCyclesUptoSaid : Prop := resolverCyclesUptoRow.holds Try.pinned (OpenSpec.upto resolverCyclesSpec)

/-- 'bursarlaw22.ResolverStates', WHERE WHAT IT READS IS OF BULK AT MOST 1048576: true; the input reads as it did. -/
def resolverStatesUptoRow : OpenClaim := { program := "ytdepmcofnlggaaa", sum := "7612b31624a413f8c1f3653121519db91005fc28ce48e1f5d3679665ceb8d33e", func := "bursar/bursarlaw22.ResolverStates", spec := "resolverStates", unfollowed := true, recurses := true, plainKeys := false, apart := false, narrowed := true }
def ResolverStatesUptoSaid : Prop := resolverStatesUptoRow.holds Try.pinned (OpenSpec.upto resolverStatesSpec)

/-- 'bursarlaw22.ResolverRounds', WHERE WHAT IT READS IS OF BULK AT MOST 1048576: true; the input reads as it did. -/
def resolverRoundsUptoRow : OpenClaim := { program := "ytdepmcofnlggaaa", sum := "7612b31624a413f8c1f3653121519db91005fc28ce48e1f5d3679665ceb8d33e", func := "bursar/bursarlaw22.ResolverRounds", spec := "resolverRounds", unfollowed := true, recurses := true, plainKeys := false, apart := false, narrowed := true }
def ResolverRoundsUptoSaid : Prop := resolverRoundsUptoRow.holds Try.pinned (OpenSpec.upto resolverRoundsSpec)

end Rows
end Go.Proofs.Ytdepmcofnlggaaa
