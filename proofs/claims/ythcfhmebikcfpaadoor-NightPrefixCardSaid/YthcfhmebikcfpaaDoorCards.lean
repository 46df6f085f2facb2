/-
  DERIVED. GIVEN WITH THE SEED: THE CARDS: each row of YthcfhmebikcfpaaDoorRows.lean that lists a variable, with what it lists TIED to the program's text (the seventh form; the later family's looks); each row that meets fmt, with fmt's text TOLD by the authors' own Lean function (tested against real Go, not proved from fmt's source: count such statements apart). THE CARD IS WHAT COUNTS. Prove the row's statement (the work); the ties are given (YthcfhmebikcfpaaDoorTie.lean); close each card by the builder's one call (the guide's Derived/Test/ToyasCard.lean, 'card_holds'). Laid BY PROGRAM, IN A SANDBOX (cutbox-door.mjs). By AI agents, Wed Nov 11 2026. No macro, syntax, notation, axiom, sorry.
-/
import Derived.Test.YthcfhmebikcfpaaDoorRows
import GoSem.ClaimSeven
namespace Go.Proofs.YthcfhmebikcfpaaDoor
namespace Rows

/-- THE TIED CARD OF 'flonglaw14.NightBack'. -/
def nightBackCard : Claim7 := { stood := { row := nightBackRow, standIns := [], harness := (true, "939a424db51006e050b52def13aedbed6d4c52175fd3e7427ddbb41609789fdc"), looks := false }, kinds := [], alts := [], laidByText := true, laidKinds := [.data, .pinned], laidTests := true, laidLooks := .later }
def NightBackCardSaid : Prop := Claim7.holds Tryd.pinned (.plain (OpenSpec.ofChange nightBackSpec)) nightBackCard

/-- THE TIED CARD OF 'flonglaw14.NightPrefix'. -/
def nightPrefixCard : Claim7 := { stood := { row := nightPrefixRow, standIns := [], harness := (true, "939a424db51006e050b52def13aedbed6d4c52175fd3e7427ddbb41609789fdc"), looks := false }, kinds := [], alts := [], laidByText := true, laidKinds := [.data, .pinned], laidTests := true, laidLooks := .later }
def NightPrefixCardSaid : Prop := Claim7.holds Tryd.pinned (.plain (OpenSpec.ofChange nightPrefixSpec)) nightPrefixCard

/-- THE TIED CARD OF 'flonglaw14.NightLeast'. -/
def nightLeastCard : Claim7 := { stood := { row := nightLeastRow, standIns := [], harness := (true, "939a424db51006e050b52def13aedbed6d4c52175fd3e7427ddbb41609789fdc"), looks := false }, kinds := [], alts := [], laidByText := true, laidKinds := [.data, .pinned], laidTests := true, laidLooks := .later }
def NightLeastCardSaid : Prop := Claim7.holds Tryd.pinned (.plain (OpenSpec.ofChange nightLeastSpec)) nightLeastCard

/-- THE TIED CARD OF 'flonglaw14.NightOrder'. -/
def nightOrderCard : Claim7 := { stood := { row := nightOrderRow, standIns := [], harness := (true, "939a424db51006e050b52def13aedbed6d4c52175fd3e7427ddbb41609789fdc"), looks := false }, kinds := [], alts := [], laidByText := true, laidKinds := [.data, .pinned], laidTests := true, laidLooks := .later }
def NightOrderCardSaid : Prop := Claim7.holds Tryd.pinned (.plain (OpenSpec.ofChange nightOrderSpec)) nightOrderCard

/-- THE TIED CARD OF 'flonglaw14.NightApart'. -/
def nightApartCard : Claim7 := { stood := { row := nightApartRow, standIns := [], harness := (true, "939a424db51006e050b52def13aedbed6d4c52175fd3e7427ddbb41609789fdc"), looks := false }, kinds := [], alts := [], laidByText := true, laidKinds := [.data, .pinned], laidTests := true, laidLooks := .later }
def NightApartCardSaid : Prop := Claim7.holds Tryd.pinned (.plain (OpenSpec.ofChange nightApartSpec)) nightApartCard

/-- THE TIED CARD OF 'flonglaw14.NightByte'. -/
def nightByteCard : Claim7 := { stood := { row := nightByteRow, standIns := [], harness := (true, "939a424db51006e050b52def13aedbed6d4c52175fd3e7427ddbb41609789fdc"), looks := false }, kinds := [], alts := [], laidByText := true, laidKinds := [.data, .pinned], laidTests := true, laidLooks := .later }
def NightByteCardSaid : Prop := Claim7.holds Tryd.pinned (.plain (OpenSpec.ofChange nightByteSpec)) nightByteCard

/-- THE TIED CARD OF 'flonglaw14.NightCodes'. -/
def nightCodesCard : Claim7 := { stood := { row := nightCodesRow, standIns := [], harness := (true, "939a424db51006e050b52def13aedbed6d4c52175fd3e7427ddbb41609789fdc"), looks := false }, kinds := [], alts := [], laidByText := true, laidKinds := [.data, .pinned], laidTests := true, laidLooks := .later }
def NightCodesCardSaid : Prop := Claim7.holds Tryd.pinned (.plain (OpenSpec.ofChange nightCodesSpec)) nightCodesCard

/-- THE TIED CARD OF 'flonglaw14.NightLong'. -/
def nightLongCard : Claim7 := { stood := { row := nightLongRow, standIns := [], harness := (true, "939a424db51006e050b52def13aedbed6d4c52175fd3e7427ddbb41609789fdc"), looks := false }, kinds := [], alts := [], laidByText := true, laidKinds := [.data, .pinned], laidTests := true, laidLooks := .later }
def NightLongCardSaid : Prop := Claim7.holds Tryd.pinned (.plain (OpenSpec.ofChange nightLongSpec)) nightLongCard

/-- THE TIED CARD OF 'flonglaw14.NightMore'. -/
def nightMoreCard : Claim7 := { stood := { row := nightMoreRow, standIns := [], harness := (true, "939a424db51006e050b52def13aedbed6d4c52175fd3e7427ddbb41609789fdc"), looks := false }, kinds := [], alts := [], laidByText := true, laidKinds := [.data, .pinned], laidTests := true, laidLooks := .later }
def NightMoreCardSaid : Prop := Claim7.holds Tryd.pinned (.plain (OpenSpec.ofChange nightMoreSpec)) nightMoreCard

/-- THE SECOND FORM's CARD OF 'flonglaw14.NightBack'. -/
def nightBackUptoCard : Claim7 := { stood := { row := nightBackUptoRow, standIns := [], harness := (true, "939a424db51006e050b52def13aedbed6d4c52175fd3e7427ddbb41609789fdc"), looks := false }, kinds := [], alts := [], laidByText := true, laidKinds := [.data, .pinned], laidTests := true, laidLooks := .later }
def NightBackUptoCardSaid : Prop := Claim7.holds Tryd.pinned (.plain (OpenSpec.upto nightBackSpec)) nightBackUptoCard

/-- THE SECOND FORM's CARD OF 'flonglaw14.NightPrefix'. -/
def nightPrefixUptoCard : Claim7 := { stood := { row := nightPrefixUptoRow, standIns := [], harness := (true, "939a424db51006e050b52def13aedbed6d4c52175fd3e7427ddbb41609789fdc"), looks := false }, kinds := [], alts := [], laidByText := true, laidKinds := [.data, .pinned], laidTests := true, laidLooks := .later }
def NightPrefixUptoCardSaid : Prop := Claim7.holds Tryd.pinned (.plain (OpenSpec.upto nightPrefixSpec)) nightPrefixUptoCard

/-- THE SECOND FORM's CARD OF 'flonglaw14.NightLeast'. -/
def nightLeastUptoCard : Claim7 := { stood := { row := nightLeastUptoRow, standIns := [], harness := (true, "939a424db51006e050b52def13aedbed6d4c52175fd3e7427ddbb41609789fdc"), looks := false }, kinds := [], alts := [], laidByText := true, laidKinds := [.data, .pinned], laidTests := true, laidLooks := .later }
def NightLeastUptoCardSaid : Prop := Claim7.holds Tryd.pinned (.plain (OpenSpec.upto nightLeastSpec)) nightLeastUptoCard

/-- THE SECOND FORM's CARD OF 'flonglaw14.NightOrder'. -/
def nightOrderUptoCard : Claim7 := { stood := { row := nightOrderUptoRow, standIns := [], harness := (true, "939a424db51006e050b52def13aedbed6d4c52175fd3e7427ddbb41609789fdc"), looks := false }, kinds := [], alts := [], laidByText := true, laidKinds := [.data, .pinned], laidTests := true, laidLooks := .later }
def NightOrderUptoCardSaid : Prop := Claim7.holds Tryd.pinned (.plain (OpenSpec.upto nightOrderSpec)) nightOrderUptoCard

/-- THE SECOND FORM's CARD OF 'flonglaw14.NightApart'. -/
def nightApartUptoCard : Claim7 := { stood := { row := nightApartUptoRow, standIns := [], harness := (true, "939a424db51006e050b52def13aedbed6d4c52175fd3e7427ddbb41609789fdc"), looks := false }, kinds := [], alts := [], laidByText := true, laidKinds := [.data, .pinned], laidTests := true, laidLooks := .later }
def NightApartUptoCardSaid : Prop := Claim7.holds Tryd.pinned (.plain (OpenSpec.upto nightApartSpec)) nightApartUptoCard

/-- THE SECOND FORM's CARD OF 'flonglaw14.NightByte'. -/
def nightByteUptoCard : Claim7 := { stood := { row := nightByteUptoRow, standIns := [], harness := (true, "939a424db51006e050b52def13aedbed6d4c52175fd3e7427ddbb41609789fdc"), looks := false }, kinds := [], alts := [], laidByText := true, laidKinds := [.data, .pinned], laidTests := true, laidLooks := .later }
def NightByteUptoCardSaid : Prop := Claim7.holds Tryd.pinned (.plain (OpenSpec.upto nightByteSpec)) nightByteUptoCard

/-- THE SECOND FORM's CARD OF 'flonglaw14.NightCodes'. -/
def nightCodesUptoCard : Claim7 := { stood := { row := nightCodesUptoRow, standIns := [], harness := (true, "939a424db51006e050b52def13aedbed6d4c52175fd3e7427ddbb41609789fdc"), looks := false }, kinds := [], alts := [], laidByText := true, laidKinds := [.data, .pinned], laidTests := true, laidLooks := .later }
def NightCodesUptoCardSaid : Prop := Claim7.holds Tryd.pinned (.plain (OpenSpec.upto nightCodesSpec)) nightCodesUptoCard

/-- THE SECOND FORM's CARD OF 'flonglaw14.NightLong'. -/
def nightLongUptoCard : Claim7 := { stood := { row := nightLongUptoRow, standIns := [], harness := (true, "939a424db51006e050b52def13aedbed6d4c52175fd3e7427ddbb41609789fdc"), looks := false }, kinds := [], alts := [], laidByText := true, laidKinds := [.data, .pinned], laidTests := true, laidLooks := .later }
def NightLongUptoCardSaid : Prop := Claim7.holds Tryd.pinned (.plain (OpenSpec.upto nightLongSpec)) nightLongUptoCard

/-- THE SECOND FORM's CARD OF 'flonglaw14.NightMore'. -/
def nightMoreUptoCard : Claim7 := { stood := { row := nightMoreUptoRow, standIns := [], harness := (true, "939a424db51006e050b52def13aedbed6d4c52175fd3e7427ddbb41609789fdc"), looks := false }, kinds := [], alts := [], laidByText := true, laidKinds := [.data, .pinned], laidTests := true, laidLooks := .later }
def NightMoreUptoCardSaid : Prop := Claim7.holds Tryd.pinned (.plain (OpenSpec.upto nightMoreSpec)) nightMoreUptoCard
end Rows
end Go.Proofs.YthcfhmebikcfpaaDoor
