/-
  DERIVED. GIVEN WITH THE SEED: THE CARDS: each row of YtjgcmpondbocfaaDoorRows.lean that lists a variable, with what it lists TIED to the program's text (the seventh form; the later family's looks); each row that meets fmt, with fmt's text TOLD by the authors' own Lean function (tested against real Go, not proved from fmt's source: count such statements apart). THE CARD IS WHAT COUNTS. Prove the row's statement (the work); the ties are given (YtjgcmpondbocfaaDoorTie.lean); close each card by the builder's one call (the guide's Derived/Test/ToyasCard.lean, 'card_holds'). Laid BY PROGRAM, IN A SANDBOX (cutbox-door.mjs). By AI agents, Wed Nov 11 2026. No macro, syntax, notation, axiom, sorry.
-/
import Derived.Test.YtjgcmpondbocfaaDoorRows
import GoSem.ClaimSeven
namespace Go.Proofs.YtjgcmpondbocfaaDoor
namespace Rows

/-- THE TIED CARD OF 'stratalaw2.DagTells'. -/
def dagTellsCard : Claim7 := { stood := { row := dagTellsRow, standIns := [], harness := (true, "81e6756cfe753cb8238af93aaff13c42fdff7c80534b3b940281dc7cbbeec05e"), looks := true }, kinds := [], alts := [], laidByText := true, laidKinds := [.handle], laidTests := true, laidLooks := .later }
def DagTellsCardSaid : Prop := Claim7.holds Tryd.pinned (.plain (OpenSpec.ofChange dagTellsSpec)) dagTellsCard

/-- THE TIED CARD OF 'stratalaw2.StorePlays'. -/
def storePlaysCard : Claim7 := { stood := { row := storePlaysRow, standIns := [], harness := (true, "81e6756cfe753cb8238af93aaff13c42fdff7c80534b3b940281dc7cbbeec05e"), looks := true }, kinds := [], alts := [], laidByText := true, laidKinds := [.handle], laidTests := true, laidLooks := .later }
def StorePlaysCardSaid : Prop := Claim7.holds Tryd.pinned (.plain (OpenSpec.ofChange storePlaysSpec)) storePlaysCard

/-- THE TIED CARD OF 'stratalaw2.MergeSides'. -/
def mergeSidesCard : Claim7 := { stood := { row := mergeSidesRow, standIns := [], harness := (true, "81e6756cfe753cb8238af93aaff13c42fdff7c80534b3b940281dc7cbbeec05e"), looks := true }, kinds := [], alts := [], laidByText := true, laidKinds := [.handle], laidTests := true, laidLooks := .later }
def MergeSidesCardSaid : Prop := Claim7.holds Tryd.pinned (.plain (OpenSpec.ofChange mergeSidesSpec)) mergeSidesCard

/-- THE SECOND FORM's CARD OF 'stratalaw2.DagTells'. -/
def dagTellsUptoCard : Claim7 := { stood := { row := dagTellsUptoRow, standIns := [], harness := (true, "81e6756cfe753cb8238af93aaff13c42fdff7c80534b3b940281dc7cbbeec05e"), looks := true }, kinds := [], alts := [], laidByText := true, laidKinds := [.handle], laidTests := true, laidLooks := .later }
def DagTellsUptoCardSaid : Prop := Claim7.holds Tryd.pinned (.plain (OpenSpec.upto dagTellsSpec)) dagTellsUptoCard

/-- THE SECOND FORM's CARD OF 'stratalaw2.StorePlays'. -/
def storePlaysUptoCard : Claim7 := { stood := { row := storePlaysUptoRow, standIns := [], harness := (true, "81e6756cfe753cb8238af93aaff13c42fdff7c80534b3b940281dc7cbbeec05e"), looks := true }, kinds := [], alts := [], laidByText := true, laidKinds := [.handle], laidTests := true, laidLooks := .later }
def StorePlaysUptoCardSaid : Prop := Claim7.holds Tryd.pinned (.plain (OpenSpec.upto storePlaysSpec)) storePlaysUptoCard

/-- THE SECOND FORM's CARD OF 'stratalaw2.MergeSides'. -/
def mergeSidesUptoCard : Claim7 := { stood := { row := mergeSidesUptoRow, standIns := [], harness := (true, "81e6756cfe753cb8238af93aaff13c42fdff7c80534b3b940281dc7cbbeec05e"), looks := true }, kinds := [], alts := [], laidByText := true, laidKinds := [.handle], laidTests := true, laidLooks := .later }
def MergeSidesUptoCardSaid : Prop := Claim7.holds Tryd.pinned (.plain (OpenSpec.upto mergeSidesSpec)) mergeSidesUptoCard
end Rows
end Go.Proofs.YtjgcmpondbocfaaDoor
