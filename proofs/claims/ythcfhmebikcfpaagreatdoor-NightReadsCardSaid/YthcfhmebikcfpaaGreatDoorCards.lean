/-
  DERIVED. GIVEN WITH THE SEED: THE CARDS: each row of YthcfhmebikcfpaaGreatDoorRows.lean that lists a variable, with what it lists TIED to the program's text (the seventh form; the later family's looks); each row that meets fmt, with fmt's text TOLD by the authors' own Lean function (tested against real Go, not proved from fmt's source: count such statements apart). THE CARD IS WHAT COUNTS. Prove the row's statement (the work); the ties are given (YthcfhmebikcfpaaGreatDoorTie.lean); close each card by the builder's one call (the guide's Derived/Test/ToyasCard.lean, 'card_holds'). Laid BY PROGRAM, IN A SANDBOX (cutbox-door.mjs). By AI agents, Wed Nov 11 2026. No macro, syntax, notation, axiom, sorry.
-/
import Derived.Test.YthcfhmebikcfpaaGreatDoorRows
import GoSem.ClaimSeven
namespace Go.Proofs.YthcfhmebikcfpaaGreatDoor
namespace Rows

/-- THE TIED CARD OF 'flonglaw14.NightWrites'. -/
def nightWritesCard : Claim7 := { stood := { row := nightWritesRow, standIns := [], harness := (true, "fb92854d84a68b69838ef80b1ab28b19d9342683594d7e78a6e644e267e32732"), looks := false }, kinds := [], alts := [], laidByText := true, laidKinds := [.data, .pinned], laidTests := true, laidLooks := .later }
def NightWritesCardSaid : Prop := Claim7.holds Tryz.pinned (.plain (OpenSpec.ofChange nightWritesSpec)) nightWritesCard

/-- THE TIED CARD OF 'flonglaw14.NightWeights'. -/
def nightWeightsCard : Claim7 := { stood := { row := nightWeightsRow, standIns := [], harness := (true, "fb92854d84a68b69838ef80b1ab28b19d9342683594d7e78a6e644e267e32732"), looks := false }, kinds := [], alts := [], laidByText := true, laidKinds := [.data, .pinned], laidTests := true, laidLooks := .later }
def NightWeightsCardSaid : Prop := Claim7.holds Tryz.pinned (.plain (OpenSpec.ofChange nightWeightsSpec)) nightWeightsCard

/-- THE TIED CARD OF 'flonglaw14.NightReads'. -/
def nightReadsCard : Claim7 := { stood := { row := nightReadsRow, standIns := [], harness := (true, "fb92854d84a68b69838ef80b1ab28b19d9342683594d7e78a6e644e267e32732"), looks := false }, kinds := [], alts := [], laidByText := true, laidKinds := [.data, .pinned], laidTests := true, laidLooks := .later }
def NightReadsCardSaid : Prop := Claim7.holds Tryz.pinned (.plain (OpenSpec.ofChange nightReadsSpec)) nightReadsCard

/-- THE SECOND FORM's CARD OF 'flonglaw14.NightWrites'. -/
def nightWritesUptoCard : Claim7 := { stood := { row := nightWritesUptoRow, standIns := [], harness := (true, "fb92854d84a68b69838ef80b1ab28b19d9342683594d7e78a6e644e267e32732"), looks := false }, kinds := [], alts := [], laidByText := true, laidKinds := [.data, .pinned], laidTests := true, laidLooks := .later }
def NightWritesUptoCardSaid : Prop := Claim7.holds Tryz.pinned (.plain (OpenSpec.upto nightWritesSpec)) nightWritesUptoCard

/-- THE SECOND FORM's CARD OF 'flonglaw14.NightWeights'. -/
def nightWeightsUptoCard : Claim7 := { stood := { row := nightWeightsUptoRow, standIns := [], harness := (true, "fb92854d84a68b69838ef80b1ab28b19d9342683594d7e78a6e644e267e32732"), looks := false }, kinds := [], alts := [], laidByText := true, laidKinds := [.data, .pinned], laidTests := true, laidLooks := .later }
def NightWeightsUptoCardSaid : Prop := Claim7.holds Tryz.pinned (.plain (OpenSpec.upto nightWeightsSpec)) nightWeightsUptoCard

/-- THE SECOND FORM's CARD OF 'flonglaw14.NightReads'. -/
def nightReadsUptoCard : Claim7 := { stood := { row := nightReadsUptoRow, standIns := [], harness := (true, "fb92854d84a68b69838ef80b1ab28b19d9342683594d7e78a6e644e267e32732"), looks := false }, kinds := [], alts := [], laidByText := true, laidKinds := [.data, .pinned], laidTests := true, laidLooks := .later }
def NightReadsUptoCardSaid : Prop := Claim7.holds Tryz.pinned (.plain (OpenSpec.upto nightReadsSpec)) nightReadsUptoCard
end Rows
end Go.Proofs.YthcfhmebikcfpaaGreatDoor
