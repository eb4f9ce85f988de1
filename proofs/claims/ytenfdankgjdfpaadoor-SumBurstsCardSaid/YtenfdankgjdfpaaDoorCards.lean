/-
  DERIVED. GIVEN WITH THE SEED: THE CARDS: each row of YtenfdankgjdfpaaDoorRows.lean that lists a variable, with what it lists TIED to the program's text (the seventh form; the later family's looks); each row that meets fmt, with fmt's text TOLD by the authors' own Lean function (tested against real Go, not proved from fmt's source: count such statements apart). THE CARD IS WHAT COUNTS. Prove the row's statement (the work); the ties are given (YtenfdankgjdfpaaDoorTie.lean); close each card by the builder's one call (the guide's Derived/Test/ToyasCard.lean, 'card_holds'). Laid BY PROGRAM, IN A SANDBOX (cutbox-door.mjs). By AI agents, Wed Nov 11 2026. No macro, syntax, notation, axiom, sorry.
-/
import Derived.Test.YtenfdankgjdfpaaDoorRows
import GoSem.ClaimSeven
namespace Go.Proofs.YtenfdankgjdfpaaDoor
namespace Rows

/-- THE TIED CARD OF 'bursarlaw03.SumReckons'. -/
def sumReckonsCard : Claim7 := { stood := { row := sumReckonsRow, standIns := [], harness := (true, "0a344556612c8a44b4727364d31b0f639af243e914cd56509c9ef149ec72fe1d"), looks := false }, kinds := [], alts := [], laidByText := true, laidKinds := [.data], laidTests := true, laidLooks := .later }
def SumReckonsCardSaid : Prop := Claim7.holds Tryd.pinned (.plain (OpenSpec.ofChange sumReckonsSpec)) sumReckonsCard

/-- THE TIED CARD OF 'bursarlaw03.SumSeals'. -/
def sumSealsCard : Claim7 := { stood := { row := sumSealsRow, standIns := [], harness := (true, "0a344556612c8a44b4727364d31b0f639af243e914cd56509c9ef149ec72fe1d"), looks := false }, kinds := [], alts := [], laidByText := true, laidKinds := [.data], laidTests := true, laidLooks := .later }
def SumSealsCardSaid : Prop := Claim7.holds Tryd.pinned (.plain (OpenSpec.ofChange sumSealsSpec)) sumSealsCard

/-- THE TIED CARD OF 'bursarlaw03.SumJoins'. -/
def sumJoinsCard : Claim7 := { stood := { row := sumJoinsRow, standIns := [], harness := (true, "0a344556612c8a44b4727364d31b0f639af243e914cd56509c9ef149ec72fe1d"), looks := false }, kinds := [], alts := [], laidByText := true, laidKinds := [.data], laidTests := true, laidLooks := .later }
def SumJoinsCardSaid : Prop := Claim7.holds Tryd.pinned (.plain (OpenSpec.ofChange sumJoinsSpec)) sumJoinsCard

/-- THE TIED CARD OF 'bursarlaw03.SumBursts'. -/
def sumBurstsCard : Claim7 := { stood := { row := sumBurstsRow, standIns := [], harness := (true, "0a344556612c8a44b4727364d31b0f639af243e914cd56509c9ef149ec72fe1d"), looks := false }, kinds := [], alts := [], laidByText := true, laidKinds := [.data], laidTests := true, laidLooks := .later }
def SumBurstsCardSaid : Prop := Claim7.holds Tryd.pinned (.plain (OpenSpec.ofChange sumBurstsSpec)) sumBurstsCard

/-- THE SECOND FORM's CARD OF 'bursarlaw03.SumReckons'. -/
def sumReckonsUptoCard : Claim7 := { stood := { row := sumReckonsUptoRow, standIns := [], harness := (true, "0a344556612c8a44b4727364d31b0f639af243e914cd56509c9ef149ec72fe1d"), looks := false }, kinds := [], alts := [], laidByText := true, laidKinds := [.data], laidTests := true, laidLooks := .later }
def SumReckonsUptoCardSaid : Prop := Claim7.holds Tryd.pinned (.plain (OpenSpec.upto sumReckonsSpec)) sumReckonsUptoCard

/-- THE SECOND FORM's CARD OF 'bursarlaw03.SumSeals'. -/
def sumSealsUptoCard : Claim7 := { stood := { row := sumSealsUptoRow, standIns := [], harness := (true, "0a344556612c8a44b4727364d31b0f639af243e914cd56509c9ef149ec72fe1d"), looks := false }, kinds := [], alts := [], laidByText := true, laidKinds := [.data], laidTests := true, laidLooks := .later }
def SumSealsUptoCardSaid : Prop := Claim7.holds Tryd.pinned (.plain (OpenSpec.upto sumSealsSpec)) sumSealsUptoCard

/-- THE SECOND FORM's CARD OF 'bursarlaw03.SumJoins'. -/
def sumJoinsUptoCard : Claim7 := { stood := { row := sumJoinsUptoRow, standIns := [], harness := (true, "0a344556612c8a44b4727364d31b0f639af243e914cd56509c9ef149ec72fe1d"), looks := false }, kinds := [], alts := [], laidByText := true, laidKinds := [.data], laidTests := true, laidLooks := .later }
def SumJoinsUptoCardSaid : Prop := Claim7.holds Tryd.pinned (.plain (OpenSpec.upto sumJoinsSpec)) sumJoinsUptoCard

/-- THE SECOND FORM's CARD OF 'bursarlaw03.SumBursts'. -/
def sumBurstsUptoCard : Claim7 := { stood := { row := sumBurstsUptoRow, standIns := [], harness := (true, "0a344556612c8a44b4727364d31b0f639af243e914cd56509c9ef149ec72fe1d"), looks := false }, kinds := [], alts := [], laidByText := true, laidKinds := [.data], laidTests := true, laidLooks := .later }
def SumBurstsUptoCardSaid : Prop := Claim7.holds Tryd.pinned (.plain (OpenSpec.upto sumBurstsSpec)) sumBurstsUptoCard
end Rows
end Go.Proofs.YtenfdankgjdfpaaDoor
