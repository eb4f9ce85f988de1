/-
  NARROWER THAN 'FOR EVERY INPUT', by the rows' own cells (each row's printed sentence says how): SumReckons: laid · SumSeals: laid · SumJoins: laid · SumBursts: laid.
  DERIVED. THE GIVEN ROWS OF THIS SEAT. 4 by the template 'for every input the law returns true; each argument reads behind the call as it read before'; 0 by the template 'total and deterministic' (their statements: YtenfdankgjdfpaaDoorTotals.lean).
  GIVEN WITH THE SEED: the statements are not yours to turn. If you find one false, say at which input.
  Laid BY PROGRAM, IN A SANDBOX (cutbox-rows.mjs): the forced cells as the released guide's own fill.sh prints them over the translation f68e23b1ddae91cf… (all of the seat's roots in one cut). By AI agents, Wed Nov 11 2026. No macro, syntax, notation, axiom, sorry.
-/
import Derived.Test.YtenfdankgjdfpaaDoorChecked
import GoSem.Claim
import GoSem.ClaimJoined
import GoSem.ClaimMapViews
import Derived.JoinedTies
import Derived.KernelRfl
namespace Go.Proofs.YtenfdankgjdfpaaDoor
/- THE CELL 'sum', in the pinned program and in every row, IS THE sha256 OF THE DUMP (.gsa) THAT YtenfdankgjdfpaaDoorProg.lean LOADS. Nothing in Lean hashes anything: it is a label: what it is worth is what the hold of that sum in a sandbox is worth. -/
noncomputable def Tryd.pinned : Pinned := { name := "ytenfdankgjdfpaadoor", sum := "f68e23b1ddae91cfe0c25ee039d8a4fa31a10193fcc4e0f3abce8d697ed8e887", checked := Tryd.checked }
namespace Rows
def none {H : Type} : Left H := { results := [], args := [] }

/- WHAT THE LISTED PACKAGE-LEVEL VARIABLES READ AS WHEN THE CALL BEGINS. Each datum BY PROGRAM (the guide's laid-datum.mjs) off the statement by which the dump's own 'gosem.cut.vars' lays the variable. In a bare row this is a premise. The card (YtenfdankgjdfpaaDoorCards.lean) ties it to the program's text. -/
def laid_bursar_sum_nibbles {H : Type} : DataW H := .agg [.lit (.int .u32 0), .lit (.int .u32 274646895), .lit (.int .u32 549293790), .lit (.int .u32 820201905), .lit (.int .u32 1098587580), .lit (.int .u32 1361435347), .lit (.int .u32 1640403810), .lit (.int .u32 1905808397), .lit (.int .u32 2197175160), .lit (.int .u32 2460548119), .lit (.int .u32 2722870694), .lit (.int .u32 2987750089), .lit (.int .u32 3280807620), .lit (.int .u32 3553878443), .lit (.int .u32 3811616794), .lit (.int .u32 4084100981)]

/-- 'bursarlaw03.SumReckons': WHATEVER THE INPUT: true; the input reads as it did. -/
def sumReckonsSpec : ChangeSpec := { name := "sumReckons", fn := fun _ => fun
  | [d1, d2] => { results := [.lit (.bool true)], args := [d1, d2] }
  | _ => none }
def sumReckonsRow : OpenClaim := { program := "ytenfdankgjdfpaadoor", sum := "f68e23b1ddae91cfe0c25ee039d8a4fa31a10193fcc4e0f3abce8d697ed8e887", func := "bursar/bursarlaw03.SumReckons", spec := "sumReckons", named := ["bursar/sum.nibbles"], apart := false, laid := [("bursar/sum.nibbles", laid_bursar_sum_nibbles)] }
def SumReckonsSaid : Prop := sumReckonsRow.holds Tryd.pinned (OpenSpec.ofChange sumReckonsSpec)

/-- ITS FALSE NEIGHBOUR: 'it returns false'. Refute it at one input. -/
def sumReckonsWrong : ChangeSpec := { name := "sumReckons", fn := fun _ => fun
  | [d1, d2] => { results := [.lit (.bool false)], args := [d1, d2] }
  | _ => none }
def SumReckonsWrongFalsely : Prop := sumReckonsRow.holds Tryd.pinned (OpenSpec.ofChange sumReckonsWrong)

/-- 'bursarlaw03.SumSeals': WHATEVER THE INPUT: true; the input reads as it did. -/
def sumSealsSpec : ChangeSpec := { name := "sumSeals", fn := fun _ => fun
  | [d] => { results := [.lit (.bool true)], args := [d] }
  | _ => none }
def sumSealsRow : OpenClaim := { program := "ytenfdankgjdfpaadoor", sum := "f68e23b1ddae91cfe0c25ee039d8a4fa31a10193fcc4e0f3abce8d697ed8e887", func := "bursar/bursarlaw03.SumSeals", spec := "sumSeals", named := ["bursar/sum.nibbles"], apart := false, laid := [("bursar/sum.nibbles", laid_bursar_sum_nibbles)] }
def SumSealsSaid : Prop := sumSealsRow.holds Tryd.pinned (OpenSpec.ofChange sumSealsSpec)

/-- ITS FALSE NEIGHBOUR: 'it returns false'. Refute it at one input. -/
def sumSealsWrong : ChangeSpec := { name := "sumSeals", fn := fun _ => fun
  | [d] => { results := [.lit (.bool false)], args := [d] }
  | _ => none }
def SumSealsWrongFalsely : Prop := sumSealsRow.holds Tryd.pinned (OpenSpec.ofChange sumSealsWrong)

/-- 'bursarlaw03.SumJoins': WHATEVER THE INPUT: true; the input reads as it did. -/
def sumJoinsSpec : ChangeSpec := { name := "sumJoins", fn := fun _ => fun
  | [d1, d2] => { results := [.lit (.bool true)], args := [d1, d2] }
  | _ => none }
def sumJoinsRow : OpenClaim := { program := "ytenfdankgjdfpaadoor", sum := "f68e23b1ddae91cfe0c25ee039d8a4fa31a10193fcc4e0f3abce8d697ed8e887", func := "bursar/bursarlaw03.SumJoins", spec := "sumJoins", named := ["bursar/sum.nibbles"], apart := false, laid := [("bursar/sum.nibbles", laid_bursar_sum_nibbles)] }
def SumJoinsSaid : Prop := sumJoinsRow.holds Tryd.pinned (OpenSpec.ofChange sumJoinsSpec)

/-- ITS FALSE NEIGHBOUR: 'it returns false'. Refute it at one input. -/
def sumJoinsWrong : ChangeSpec := { name := "sumJoins", fn := fun _ => fun
  | [d1, d2] => { results := [.lit (.bool false)], args := [d1, d2] }
  | _ => none }
def SumJoinsWrongFalsely : Prop := sumJoinsRow.holds Tryd.pinned (OpenSpec.ofChange sumJoinsWrong)

/-- 'bursarlaw03.SumBursts': WHATEVER THE INPUT: true; the input reads as it did. -/
def sumBurstsSpec : ChangeSpec := { name := "sumBursts", fn := fun _ => fun
  | [d1, d2, d3] => { results := [.lit (.bool true)], args := [d1, d2, d3] }
  | _ => none }
def sumBurstsRow : OpenClaim := { program := "ytenfdankgjdfpaadoor", sum := "f68e23b1ddae91cfe0c25ee039d8a4fa31a10193fcc4e0f3abce8d697ed8e887", func := "bursar/bursarlaw03.SumBursts", spec := "sumBursts", named := ["bursar/sum.nibbles"], apart := false, laid := [("bursar/sum.nibbles", laid_bursar_sum_nibbles)] }
def SumBurstsSaid : Prop := sumBurstsRow.holds Tryd.pinned (OpenSpec.ofChange sumBurstsSpec)

/-- ITS FALSE NEIGHBOUR: 'it returns false'. Refute it at one input. -/
def sumBurstsWrong : ChangeSpec := { name := "sumBursts", fn := fun _ => fun
  | [d1, d2, d3] => { results := [.lit (.bool false)], args := [d1, d2, d3] }
  | _ => none }
def SumBurstsWrongFalsely : Prop := sumBurstsRow.holds Tryd.pinned (OpenSpec.ofChange sumBurstsWrong)

/- THE SECOND FORM. 'bulk': how many values and letters a reading holds, each counted each time it is reached (what is shared counts as often as it is met; a slice's spare places count too). A statement '..UptoSaid' is the law's where the arguments, and the package variables that the reading takes, are together of bulk at most 1048576: NARROWER than '..Said'. Prove '..Said' where nothing that the law and all that it calls make is longer than what came in: it says more and counts as full. Else prove '..UptoSaid'. A law counts once. -/
mutual
def uptoBulk {H : Type} : DataW H → Nat
  | .lit (.string bytes) => bytes.length + 1
  | .lit _ => 1
  | .nil => 1
  | .ptr d => uptoBulk d + 1
  | .slice elems spare => uptoBulkAll elems + uptoBulkAll spare + 1
  | .agg parts => uptoBulkAll parts + 1
  | .iface _ d => uptoBulk d + 1
  | .map entries => uptoBulkEntries entries + 1
  | .held _ => 1
def uptoBulkAll {H : Type} : List (DataW H) → Nat
  | [] => 0
  | d :: r => uptoBulk d + uptoBulkAll r
def uptoBulkEntries {H : Type} : List (Lit × DataW H) → Nat
  | [] => 0
  | x :: r => uptoBulkEntry x + uptoBulkEntries r
def uptoBulkEntry {H : Type} : Lit × DataW H → Nat
  | (.string bytes, d) => bytes.length + uptoBulk d + 1
  | (_, d) => uptoBulk d + 1
 end
def uptoSmall : (H : Type) → List (DataW H) → Bool := fun _ ds => decide (uptoBulkAll ds ≤ 1048576)
def OpenSpec.upto (s : _root_.Go.ChangeSpec) : _root_.Go.OpenSpec := { _root_.Go.OpenSpec.ofChange s with cond := some uptoSmall }

/-- 'bursarlaw03.SumReckons', WHERE WHAT IT READS IS OF BULK AT MOST 1048576: true; the input reads as it did. -/
def sumReckonsUptoRow : OpenClaim := { program := "ytenfdankgjdfpaadoor", sum := "f68e23b1ddae91cfe0c25ee039d8a4fa31a10193fcc4e0f3abce8d697ed8e887", func := "bursar/bursarlaw03.SumReckons", spec := "sumReckons", named := ["bursar/sum.nibbles"], apart := false, laid := [("bursar/sum.nibbles", laid_bursar_sum_nibbles)], narrowed := true }
def SumReckonsUptoSaid : Prop := sumReckonsUptoRow.holds Tryd.pinned (OpenSpec.upto sumReckonsSpec)

/-- 'bursarlaw03.SumSeals', WHERE WHAT IT READS IS OF BULK AT MOST 1048576: true; the input reads as it did. -/
def sumSealsUptoRow : OpenClaim := { program := "ytenfdankgjdfpaadoor", sum := "f68e23b1ddae91cfe0c25ee039d8a4fa31a10193fcc4e0f3abce8d697ed8e887", func := "bursar/bursarlaw03.SumSeals", spec := "sumSeals", named := ["bursar/sum.nibbles"], apart := false, laid := [("bursar/sum.nibbles", laid_bursar_sum_nibbles)], narrowed := true }
def SumSealsUptoSaid : Prop := sumSealsUptoRow.holds Tryd.pinned (OpenSpec.upto sumSealsSpec)

/-- 'bursarlaw03.SumJoins', WHERE WHAT IT READS IS OF BULK AT MOST 1048576: true; the input reads as it did. -/
def sumJoinsUptoRow : OpenClaim := { program := "ytenfdankgjdfpaadoor", sum := "f68e23b1ddae91cfe0c25ee039d8a4fa31a10193fcc4e0f3abce8d697ed8e887", func := "bursar/bursarlaw03.SumJoins", spec := "sumJoins", named := ["bursar/sum.nibbles"], apart := false, laid := [("bursar/sum.nibbles", laid_bursar_sum_nibbles)], narrowed := true }
def SumJoinsUptoSaid : Prop := sumJoinsUptoRow.holds Tryd.pinned (OpenSpec.upto sumJoinsSpec)

/-- 'bursarlaw03.SumBursts', WHERE WHAT IT READS IS OF BULK AT MOST 1048576: true; the input reads as it did. -/
def sumBurstsUptoRow : OpenClaim := { program := "ytenfdankgjdfpaadoor", sum := "f68e23b1ddae91cfe0c25ee039d8a4fa31a10193fcc4e0f3abce8d697ed8e887", func := "bursar/bursarlaw03.SumBursts", spec := "sumBursts", named := ["bursar/sum.nibbles"], apart := false, laid := [("bursar/sum.nibbles", laid_bursar_sum_nibbles)], narrowed := true }
def SumBurstsUptoSaid : Prop := sumBurstsUptoRow.holds Tryd.pinned (OpenSpec.upto sumBurstsSpec)

end Rows
end Go.Proofs.YtenfdankgjdfpaaDoor
