/-
  DERIVED. GIVEN WITH THE SEED: THE CARDS: each row of YtbliehinagkldaaGreatDoorRows.lean that lists a variable, with what it lists TIED to the program's text (the seventh form; the later family's looks); each row that meets fmt, with fmt's text TOLD by the authors' own Lean function (tested against real Go, not proved from fmt's source: count such statements apart). THE CARD IS WHAT COUNTS. Prove the row's statement (the work); the ties are given (YtbliehinagkldaaGreatDoorTie.lean); close each card by the builder's one call (the guide's Derived/Test/ToyasCard.lean, 'card_holds'). Laid BY PROGRAM, IN A SANDBOX (cutbox-door.mjs). By AI agents, Wed Nov 11 2026. No macro, syntax, notation, axiom, sorry.
-/
import Derived.Test.YtbliehinagkldaaGreatDoorRows
import GoSem.ClaimSeven
namespace Go.Proofs.YtbliehinagkldaaGreatDoor
namespace Rows

/-- THE TIED CARD OF 'flonglaw12.OverseerCorrected'. -/
def overseerCorrectedCard : Claim7 := { stood := { row := overseerCorrectedRow, standIns := [], harness := (true, "3a18a216c62359e0f06e1d3014de965bc5ce7d300dd5c1fbe8bd8daf270ca578"), looks := true }, kinds := [], alts := [], laidByText := true, laidKinds := [.data, .data, .data, .data, .sentinel, .sentinel, .pinned], laidTests := true, laidLooks := .later }
def OverseerCorrectedCardSaid : Prop := Claim7.holds Tryz.pinned (.plain (OpenSpec.ofChange overseerCorrectedSpec)) overseerCorrectedCard

/-- THE TIED CARD OF 'flonglaw12.OverseerBook'. -/
def overseerBookCard : Claim7 := { stood := { row := overseerBookRow, standIns := [], harness := (true, "3a18a216c62359e0f06e1d3014de965bc5ce7d300dd5c1fbe8bd8daf270ca578"), looks := true }, kinds := [], alts := [], laidByText := true, laidKinds := [.data, .data, .data, .data, .sentinel, .sentinel, .pinned], laidTests := true, laidLooks := .later }
def OverseerBookCardSaid : Prop := Claim7.holds Tryz.pinned (.plain (OpenSpec.ofChange overseerBookSpec)) overseerBookCard

/-- THE TIED CARD OF 'flonglaw12.OverseerNothing'. -/
def overseerNothingCard : Claim7 := { stood := { row := overseerNothingRow, standIns := [], harness := (true, "3a18a216c62359e0f06e1d3014de965bc5ce7d300dd5c1fbe8bd8daf270ca578"), looks := true }, kinds := [], alts := [], laidByText := true, laidKinds := [.data, .data, .data, .data, .sentinel, .sentinel, .pinned], laidTests := true, laidLooks := .later }
def OverseerNothingCardSaid : Prop := Claim7.holds Tryz.pinned (.plain (OpenSpec.ofChange overseerNothingSpec)) overseerNothingCard

/-- THE TIED CARD OF 'flonglaw12.OverseerTwice'. -/
def overseerTwiceCard : Claim7 := { stood := { row := overseerTwiceRow, standIns := [], harness := (true, "3a18a216c62359e0f06e1d3014de965bc5ce7d300dd5c1fbe8bd8daf270ca578"), looks := true }, kinds := [], alts := [], laidByText := true, laidKinds := [.data, .data, .data, .data, .sentinel, .sentinel, .pinned], laidTests := true, laidLooks := .later }
def OverseerTwiceCardSaid : Prop := Claim7.holds Tryz.pinned (.plain (OpenSpec.ofChange overseerTwiceSpec)) overseerTwiceCard

/-- THE TIED CARD OF 'flonglaw12.OverseerBoth'. -/
def overseerBothCard : Claim7 := { stood := { row := overseerBothRow, standIns := [], harness := (true, "3a18a216c62359e0f06e1d3014de965bc5ce7d300dd5c1fbe8bd8daf270ca578"), looks := true }, kinds := [], alts := [], laidByText := true, laidKinds := [.data, .data, .data, .data, .sentinel, .sentinel, .pinned], laidTests := true, laidLooks := .later }
def OverseerBothCardSaid : Prop := Claim7.holds Tryz.pinned (.plain (OpenSpec.ofChange overseerBothSpec)) overseerBothCard

/-- THE TIED CARD OF 'flonglaw12.OverseerSaid'. -/
def overseerSaidCard : Claim7 := { stood := { row := overseerSaidRow, standIns := [], harness := (true, "3a18a216c62359e0f06e1d3014de965bc5ce7d300dd5c1fbe8bd8daf270ca578"), looks := true }, kinds := [], alts := [], laidByText := true, laidKinds := [.data, .data, .data, .data, .sentinel, .sentinel, .pinned], laidTests := true, laidLooks := .later }
def OverseerSaidCardSaid : Prop := Claim7.holds Tryz.pinned (.plain (OpenSpec.ofChange overseerSaidSpec)) overseerSaidCard

/-- THE TIED CARD OF 'flonglaw12.OverseerAsked'. -/
def overseerAskedCard : Claim7 := { stood := { row := overseerAskedRow, standIns := [], harness := (true, "3a18a216c62359e0f06e1d3014de965bc5ce7d300dd5c1fbe8bd8daf270ca578"), looks := true }, kinds := [], alts := [], laidByText := true, laidKinds := [.data, .data, .data, .data, .sentinel, .sentinel, .pinned], laidTests := true, laidLooks := .later }
def OverseerAskedCardSaid : Prop := Claim7.holds Tryz.pinned (.plain (OpenSpec.ofChange overseerAskedSpec)) overseerAskedCard

/-- THE TIED CARD OF 'flonglaw12.OverseerAt'. -/
def overseerAtCard : Claim7 := { stood := { row := overseerAtRow, standIns := [], harness := (true, "3a18a216c62359e0f06e1d3014de965bc5ce7d300dd5c1fbe8bd8daf270ca578"), looks := true }, kinds := [], alts := [], laidByText := true, laidKinds := [.data, .data, .data, .data, .sentinel, .sentinel, .pinned], laidTests := true, laidLooks := .later }
def OverseerAtCardSaid : Prop := Claim7.holds Tryz.pinned (.plain (OpenSpec.ofChange overseerAtSpec)) overseerAtCard

/-- THE TIED CARD OF 'flonglaw12.OverseerHalves'. -/
def overseerHalvesCard : Claim7 := { stood := { row := overseerHalvesRow, standIns := [], harness := (true, "3a18a216c62359e0f06e1d3014de965bc5ce7d300dd5c1fbe8bd8daf270ca578"), looks := true }, kinds := [], alts := [], laidByText := true, laidKinds := [.data, .data, .data, .data, .sentinel, .sentinel, .pinned], laidTests := true, laidLooks := .later }
def OverseerHalvesCardSaid : Prop := Claim7.holds Tryz.pinned (.plain (OpenSpec.ofChange overseerHalvesSpec)) overseerHalvesCard

/-- THE TIED CARD OF 'flonglaw12.OverseerBeside'. -/
def overseerBesideCard : Claim7 := { stood := { row := overseerBesideRow, standIns := [], harness := (true, "3a18a216c62359e0f06e1d3014de965bc5ce7d300dd5c1fbe8bd8daf270ca578"), looks := true }, kinds := [], alts := [], laidByText := true, laidKinds := [.data, .data, .data, .data, .sentinel, .sentinel, .pinned], laidTests := true, laidLooks := .later }
def OverseerBesideCardSaid : Prop := Claim7.holds Tryz.pinned (.plain (OpenSpec.ofChange overseerBesideSpec)) overseerBesideCard

/-- THE TIED CARD OF 'flonglaw12.OverseerForm'. -/
def overseerFormCard : Claim7 := { stood := { row := overseerFormRow, standIns := [], harness := (true, "3a18a216c62359e0f06e1d3014de965bc5ce7d300dd5c1fbe8bd8daf270ca578"), looks := true }, kinds := [], alts := [], laidByText := true, laidKinds := [.data, .data, .data, .data, .sentinel, .sentinel, .pinned], laidTests := true, laidLooks := .later }
def OverseerFormCardSaid : Prop := Claim7.holds Tryz.pinned (.plain (OpenSpec.ofChange overseerFormSpec)) overseerFormCard

/-- THE TIED CARD OF 'flonglaw12.OverseerRun'. -/
def overseerRunCard : Claim7 := { stood := { row := overseerRunRow, standIns := [], harness := (true, "3a18a216c62359e0f06e1d3014de965bc5ce7d300dd5c1fbe8bd8daf270ca578"), looks := true }, kinds := [], alts := [], laidByText := true, laidKinds := [.data, .data, .data, .data, .sentinel, .sentinel, .pinned], laidTests := true, laidLooks := .later }
def OverseerRunCardSaid : Prop := Claim7.holds Tryz.pinned (.plain (OpenSpec.ofChange overseerRunSpec)) overseerRunCard

/-- THE SECOND FORM's CARD OF 'flonglaw12.OverseerCorrected'. -/
def overseerCorrectedUptoCard : Claim7 := { stood := { row := overseerCorrectedUptoRow, standIns := [], harness := (true, "3a18a216c62359e0f06e1d3014de965bc5ce7d300dd5c1fbe8bd8daf270ca578"), looks := true }, kinds := [], alts := [], laidByText := true, laidKinds := [.data, .data, .data, .data, .sentinel, .sentinel, .pinned], laidTests := true, laidLooks := .later }
def OverseerCorrectedUptoCardSaid : Prop := Claim7.holds Tryz.pinned (.plain (OpenSpec.upto overseerCorrectedSpec)) overseerCorrectedUptoCard

/-- THE SECOND FORM's CARD OF 'flonglaw12.OverseerBook'. -/
def overseerBookUptoCard : Claim7 := { stood := { row := overseerBookUptoRow, standIns := [], harness := (true, "3a18a216c62359e0f06e1d3014de965bc5ce7d300dd5c1fbe8bd8daf270ca578"), looks := true }, kinds := [], alts := [], laidByText := true, laidKinds := [.data, .data, .data, .data, .sentinel, .sentinel, .pinned], laidTests := true, laidLooks := .later }
def OverseerBookUptoCardSaid : Prop := Claim7.holds Tryz.pinned (.plain (OpenSpec.upto overseerBookSpec)) overseerBookUptoCard

/-- THE SECOND FORM's CARD OF 'flonglaw12.OverseerNothing'. -/
def overseerNothingUptoCard : Claim7 := { stood := { row := overseerNothingUptoRow, standIns := [], harness := (true, "3a18a216c62359e0f06e1d3014de965bc5ce7d300dd5c1fbe8bd8daf270ca578"), looks := true }, kinds := [], alts := [], laidByText := true, laidKinds := [.data, .data, .data, .data, .sentinel, .sentinel, .pinned], laidTests := true, laidLooks := .later }
def OverseerNothingUptoCardSaid : Prop := Claim7.holds Tryz.pinned (.plain (OpenSpec.upto overseerNothingSpec)) overseerNothingUptoCard

/-- THE SECOND FORM's CARD OF 'flonglaw12.OverseerTwice'. -/
def overseerTwiceUptoCard : Claim7 := { stood := { row := overseerTwiceUptoRow, standIns := [], harness := (true, "3a18a216c62359e0f06e1d3014de965bc5ce7d300dd5c1fbe8bd8daf270ca578"), looks := true }, kinds := [], alts := [], laidByText := true, laidKinds := [.data, .data, .data, .data, .sentinel, .sentinel, .pinned], laidTests := true, laidLooks := .later }
def OverseerTwiceUptoCardSaid : Prop := Claim7.holds Tryz.pinned (.plain (OpenSpec.upto overseerTwiceSpec)) overseerTwiceUptoCard

/-- THE SECOND FORM's CARD OF 'flonglaw12.OverseerBoth'. -/
def overseerBothUptoCard : Claim7 := { stood := { row := overseerBothUptoRow, standIns := [], harness := (true, "3a18a216c62359e0f06e1d3014de965bc5ce7d300dd5c1fbe8bd8daf270ca578"), looks := true }, kinds := [], alts := [], laidByText := true, laidKinds := [.data, .data, .data, .data, .sentinel, .sentinel, .pinned], laidTests := true, laidLooks := .later }
def OverseerBothUptoCardSaid : Prop := Claim7.holds Tryz.pinned (.plain (OpenSpec.upto overseerBothSpec)) overseerBothUptoCard

/-- THE SECOND FORM's CARD OF 'flonglaw12.OverseerSaid'. -/
def overseerSaidUptoCard : Claim7 := { stood := { row := overseerSaidUptoRow, standIns := [], harness := (true, "3a18a216c62359e0f06e1d3014de965bc5ce7d300dd5c1fbe8bd8daf270ca578"), looks := true }, kinds := [], alts := [], laidByText := true, laidKinds := [.data, .data, .data, .data, .sentinel, .sentinel, .pinned], laidTests := true, laidLooks := .later }
def OverseerSaidUptoCardSaid : Prop := Claim7.holds Tryz.pinned (.plain (OpenSpec.upto overseerSaidSpec)) overseerSaidUptoCard

/-- THE SECOND FORM's CARD OF 'flonglaw12.OverseerAsked'. -/
def overseerAskedUptoCard : Claim7 := { stood := { row := overseerAskedUptoRow, standIns := [], harness := (true, "3a18a216c62359e0f06e1d3014de965bc5ce7d300dd5c1fbe8bd8daf270ca578"), looks := true }, kinds := [], alts := [], laidByText := true, laidKinds := [.data, .data, .data, .data, .sentinel, .sentinel, .pinned], laidTests := true, laidLooks := .later }
def OverseerAskedUptoCardSaid : Prop := Claim7.holds Tryz.pinned (.plain (OpenSpec.upto overseerAskedSpec)) overseerAskedUptoCard

/-- THE SECOND FORM's CARD OF 'flonglaw12.OverseerAt'. -/
def overseerAtUptoCard : Claim7 := { stood := { row := overseerAtUptoRow, standIns := [], harness := (true, "3a18a216c62359e0f06e1d3014de965bc5ce7d300dd5c1fbe8bd8daf270ca578"), looks := true }, kinds := [], alts := [], laidByText := true, laidKinds := [.data, .data, .data, .data, .sentinel, .sentinel, .pinned], laidTests := true, laidLooks := .later }
def OverseerAtUptoCardSaid : Prop := Claim7.holds Tryz.pinned (.plain (OpenSpec.upto overseerAtSpec)) overseerAtUptoCard

/-- THE SECOND FORM's CARD OF 'flonglaw12.OverseerHalves'. -/
def overseerHalvesUptoCard : Claim7 := { stood := { row := overseerHalvesUptoRow, standIns := [], harness := (true, "3a18a216c62359e0f06e1d3014de965bc5ce7d300dd5c1fbe8bd8daf270ca578"), looks := true }, kinds := [], alts := [], laidByText := true, laidKinds := [.data, .data, .data, .data, .sentinel, .sentinel, .pinned], laidTests := true, laidLooks := .later }
def OverseerHalvesUptoCardSaid : Prop := Claim7.holds Tryz.pinned (.plain (OpenSpec.upto overseerHalvesSpec)) overseerHalvesUptoCard

/-- THE SECOND FORM's CARD OF 'flonglaw12.OverseerBeside'. -/
def overseerBesideUptoCard : Claim7 := { stood := { row := overseerBesideUptoRow, standIns := [], harness := (true, "3a18a216c62359e0f06e1d3014de965bc5ce7d300dd5c1fbe8bd8daf270ca578"), looks := true }, kinds := [], alts := [], laidByText := true, laidKinds := [.data, .data, .data, .data, .sentinel, .sentinel, .pinned], laidTests := true, laidLooks := .later }
def OverseerBesideUptoCardSaid : Prop := Claim7.holds Tryz.pinned (.plain (OpenSpec.upto overseerBesideSpec)) overseerBesideUptoCard

/-- THE SECOND FORM's CARD OF 'flonglaw12.OverseerForm'. -/
def overseerFormUptoCard : Claim7 := { stood := { row := overseerFormUptoRow, standIns := [], harness := (true, "3a18a216c62359e0f06e1d3014de965bc5ce7d300dd5c1fbe8bd8daf270ca578"), looks := true }, kinds := [], alts := [], laidByText := true, laidKinds := [.data, .data, .data, .data, .sentinel, .sentinel, .pinned], laidTests := true, laidLooks := .later }
def OverseerFormUptoCardSaid : Prop := Claim7.holds Tryz.pinned (.plain (OpenSpec.upto overseerFormSpec)) overseerFormUptoCard

/-- THE SECOND FORM's CARD OF 'flonglaw12.OverseerRun'. -/
def overseerRunUptoCard : Claim7 := { stood := { row := overseerRunUptoRow, standIns := [], harness := (true, "3a18a216c62359e0f06e1d3014de965bc5ce7d300dd5c1fbe8bd8daf270ca578"), looks := true }, kinds := [], alts := [], laidByText := true, laidKinds := [.data, .data, .data, .data, .sentinel, .sentinel, .pinned], laidTests := true, laidLooks := .later }
def OverseerRunUptoCardSaid : Prop := Claim7.holds Tryz.pinned (.plain (OpenSpec.upto overseerRunSpec)) overseerRunUptoCard
end Rows
end Go.Proofs.YtbliehinagkldaaGreatDoor
