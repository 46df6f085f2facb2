/-
  No cell of these rows narrows 'for every input' (looked for: loops, veiled, ifaces, maps, wideKeys, modest, calm, conditions, laid).
  DERIVED. THE GIVEN ROWS OF THIS SEAT. 12 by the template 'for every input the law returns true; each argument reads behind the call as it read before'; 0 by the template 'total and deterministic' (their statements: YteijmboophnmgaaTotals.lean).
  GIVEN WITH THE SEED: the statements are not yours to turn. If you find one false, say at which input.
  Laid BY PROGRAM, IN A SANDBOX (cutbox-rows.mjs): the forced cells as the released guide's own fill.sh prints them over the translation 7eb186929a969d94… (all of the seat's roots in one cut). By AI agents, Wed Nov 11 2026. No macro, syntax, notation, axiom, sorry.
-/
import Derived.Test.YteijmboophnmgaaChecked
import GoSem.Claim
import GoSem.ClaimJoined
import GoSem.ClaimMapViews
import Derived.JoinedTies
import Derived.KernelRfl
namespace Go.Proofs.Yteijmboophnmgaa
/- THE CELL 'sum', in the pinned program and in every row, IS THE sha256 OF THE DUMP (.gsa) THAT YteijmboophnmgaaProg.lean LOADS. Nothing in Lean hashes anything: it is a label: what it is worth is what the hold of that sum in a sandbox is worth. -/
noncomputable def Try.pinned : Pinned := { name := "yteijmboophnmgaa", sum := "7eb186929a969d94dd4918c675b003ca62119897113bda20fc680d404fbef8a9", checked := Try.checked }
namespace Rows
def none {H : Type} : Left H := { results := [], args := [] }

/-- 'flonglaw04.TrainsTold': WHATEVER THE INPUT: true; the input reads as it did. -/
def trainsToldSpec : ChangeSpec := { name := "trainsTold", fn := fun _ => fun
  | [d1, d2] => { results := [.lit (.bool true)], args := [d1, d2] }
  | _ => none }
def trainsToldRow : OpenClaim := { program := "yteijmboophnmgaa", sum := "7eb186929a969d94dd4918c675b003ca62119897113bda20fc680d404fbef8a9", func := "flong/flonglaw04.TrainsTold", spec := "trainsTold", unfollowed := true, recurses := true, apart := false }
def TrainsToldSaid : Prop := trainsToldRow.holds Try.pinned (OpenSpec.ofChange trainsToldSpec)

/-- ITS FALSE NEIGHBOUR: 'it returns false'. Refute it at one input. -/
def trainsToldWrong : ChangeSpec := { name := "trainsTold", fn := fun _ => fun
  | [d1, d2] => { results := [.lit (.bool false)], args := [d1, d2] }
  | _ => none }
def TrainsToldWrongFalsely : Prop := trainsToldRow.holds Try.pinned (OpenSpec.ofChange trainsToldWrong)

/-- 'flonglaw04.TrainsWaits': WHATEVER THE INPUT: true; the input reads as it did. -/
def trainsWaitsSpec : ChangeSpec := { name := "trainsWaits", fn := fun _ => fun
  | [d1, d2] => { results := [.lit (.bool true)], args := [d1, d2] }
  | _ => none }
def trainsWaitsRow : OpenClaim := { program := "yteijmboophnmgaa", sum := "7eb186929a969d94dd4918c675b003ca62119897113bda20fc680d404fbef8a9", func := "flong/flonglaw04.TrainsWaits", spec := "trainsWaits", unfollowed := true, recurses := true, apart := false }
def TrainsWaitsSaid : Prop := trainsWaitsRow.holds Try.pinned (OpenSpec.ofChange trainsWaitsSpec)

/-- ITS FALSE NEIGHBOUR: 'it returns false'. Refute it at one input. -/
def trainsWaitsWrong : ChangeSpec := { name := "trainsWaits", fn := fun _ => fun
  | [d1, d2] => { results := [.lit (.bool false)], args := [d1, d2] }
  | _ => none }
def TrainsWaitsWrongFalsely : Prop := trainsWaitsRow.holds Try.pinned (OpenSpec.ofChange trainsWaitsWrong)

/-- 'flonglaw04.TrainsSpare': WHATEVER THE INPUT: true; the input reads as it did. -/
def trainsSpareSpec : ChangeSpec := { name := "trainsSpare", fn := fun _ => fun
  | [d] => { results := [.lit (.bool true)], args := [d] }
  | _ => none }
def trainsSpareRow : OpenClaim := { program := "yteijmboophnmgaa", sum := "7eb186929a969d94dd4918c675b003ca62119897113bda20fc680d404fbef8a9", func := "flong/flonglaw04.TrainsSpare", spec := "trainsSpare", unfollowed := true, recurses := true, apart := false }
def TrainsSpareSaid : Prop := trainsSpareRow.holds Try.pinned (OpenSpec.ofChange trainsSpareSpec)

/-- ITS FALSE NEIGHBOUR: 'it returns false'. Refute it at one input. -/
def trainsSpareWrong : ChangeSpec := { name := "trainsSpare", fn := fun _ => fun
  | [d] => { results := [.lit (.bool false)], args := [d] }
  | _ => none }
def TrainsSpareWrongFalsely : Prop := trainsSpareRow.holds Try.pinned (OpenSpec.ofChange trainsSpareWrong)

/-- 'flonglaw04.TrainsWait': WHATEVER THE INPUT: true; the input reads as it did. -/
def trainsWaitSpec : ChangeSpec := { name := "trainsWait", fn := fun _ => fun
  | [d1, d2] => { results := [.lit (.bool true)], args := [d1, d2] }
  | _ => none }
def trainsWaitRow : OpenClaim := { program := "yteijmboophnmgaa", sum := "7eb186929a969d94dd4918c675b003ca62119897113bda20fc680d404fbef8a9", func := "flong/flonglaw04.TrainsWait", spec := "trainsWait", unfollowed := true, recurses := true, apart := false }
def TrainsWaitSaid : Prop := trainsWaitRow.holds Try.pinned (OpenSpec.ofChange trainsWaitSpec)

/-- ITS FALSE NEIGHBOUR: 'it returns false'. Refute it at one input. -/
def trainsWaitWrong : ChangeSpec := { name := "trainsWait", fn := fun _ => fun
  | [d1, d2] => { results := [.lit (.bool false)], args := [d1, d2] }
  | _ => none }
def TrainsWaitWrongFalsely : Prop := trainsWaitRow.holds Try.pinned (OpenSpec.ofChange trainsWaitWrong)

/-- 'flonglaw04.TrainsBetter': WHATEVER THE INPUT: true; the input reads as it did. -/
def trainsBetterSpec : ChangeSpec := { name := "trainsBetter", fn := fun _ => fun
  | [d1, d2] => { results := [.lit (.bool true)], args := [d1, d2] }
  | _ => none }
def trainsBetterRow : OpenClaim := { program := "yteijmboophnmgaa", sum := "7eb186929a969d94dd4918c675b003ca62119897113bda20fc680d404fbef8a9", func := "flong/flonglaw04.TrainsBetter", spec := "trainsBetter", unfollowed := true, recurses := true, apart := false }
def TrainsBetterSaid : Prop := trainsBetterRow.holds Try.pinned (OpenSpec.ofChange trainsBetterSpec)

/-- ITS FALSE NEIGHBOUR: 'it returns false'. Refute it at one input. -/
def trainsBetterWrong : ChangeSpec := { name := "trainsBetter", fn := fun _ => fun
  | [d1, d2] => { results := [.lit (.bool false)], args := [d1, d2] }
  | _ => none }
def TrainsBetterWrongFalsely : Prop := trainsBetterRow.holds Try.pinned (OpenSpec.ofChange trainsBetterWrong)

/-- 'flonglaw04.TrainsMachine': WHATEVER THE INPUT: true; the input reads as it did. -/
def trainsMachineSpec : ChangeSpec := { name := "trainsMachine", fn := fun _ => fun
  | [d1, d2] => { results := [.lit (.bool true)], args := [d1, d2] }
  | _ => none }
def trainsMachineRow : OpenClaim := { program := "yteijmboophnmgaa", sum := "7eb186929a969d94dd4918c675b003ca62119897113bda20fc680d404fbef8a9", func := "flong/flonglaw04.TrainsMachine", spec := "trainsMachine", unfollowed := true, recurses := true, apart := false }
def TrainsMachineSaid : Prop := trainsMachineRow.holds Try.pinned (OpenSpec.ofChange trainsMachineSpec)

/-- ITS FALSE NEIGHBOUR: 'it returns false'. Refute it at one input. -/
def trainsMachineWrong : ChangeSpec := { name := "trainsMachine", fn := fun _ => fun
  | [d1, d2] => { results := [.lit (.bool false)], args := [d1, d2] }
  | _ => none }
def TrainsMachineWrongFalsely : Prop := trainsMachineRow.holds Try.pinned (OpenSpec.ofChange trainsMachineWrong)

/-- 'flonglaw04.TrainsOrder': WHATEVER THE INPUT: true; the input reads as it did. -/
def trainsOrderSpec : ChangeSpec := { name := "trainsOrder", fn := fun _ => fun
  | [d1, d2, d3] => { results := [.lit (.bool true)], args := [d1, d2, d3] }
  | _ => none }
def trainsOrderRow : OpenClaim := { program := "yteijmboophnmgaa", sum := "7eb186929a969d94dd4918c675b003ca62119897113bda20fc680d404fbef8a9", func := "flong/flonglaw04.TrainsOrder", spec := "trainsOrder", unfollowed := true, recurses := true, apart := false }
def TrainsOrderSaid : Prop := trainsOrderRow.holds Try.pinned (OpenSpec.ofChange trainsOrderSpec)

/-- ITS FALSE NEIGHBOUR: 'it returns false'. Refute it at one input. -/
def trainsOrderWrong : ChangeSpec := { name := "trainsOrder", fn := fun _ => fun
  | [d1, d2, d3] => { results := [.lit (.bool false)], args := [d1, d2, d3] }
  | _ => none }
def TrainsOrderWrongFalsely : Prop := trainsOrderRow.holds Try.pinned (OpenSpec.ofChange trainsOrderWrong)

/-- 'flonglaw04.TrainsEarliest': WHATEVER THE INPUT: true; the input reads as it did. -/
def trainsEarliestSpec : ChangeSpec := { name := "trainsEarliest", fn := fun _ => fun
  | [d] => { results := [.lit (.bool true)], args := [d] }
  | _ => none }
def trainsEarliestRow : OpenClaim := { program := "yteijmboophnmgaa", sum := "7eb186929a969d94dd4918c675b003ca62119897113bda20fc680d404fbef8a9", func := "flong/flonglaw04.TrainsEarliest", spec := "trainsEarliest", unfollowed := true, recurses := true, apart := false }
def TrainsEarliestSaid : Prop := trainsEarliestRow.holds Try.pinned (OpenSpec.ofChange trainsEarliestSpec)

/-- ITS FALSE NEIGHBOUR: 'it returns false'. Refute it at one input. -/
def trainsEarliestWrong : ChangeSpec := { name := "trainsEarliest", fn := fun _ => fun
  | [d] => { results := [.lit (.bool false)], args := [d] }
  | _ => none }
def TrainsEarliestWrongFalsely : Prop := trainsEarliestRow.holds Try.pinned (OpenSpec.ofChange trainsEarliestWrong)

/-- 'flonglaw04.TrainsSure': WHATEVER THE INPUT: true; the input reads as it did. -/
def trainsSureSpec : ChangeSpec := { name := "trainsSure", fn := fun _ => fun
  | [d] => { results := [.lit (.bool true)], args := [d] }
  | _ => none }
def trainsSureRow : OpenClaim := { program := "yteijmboophnmgaa", sum := "7eb186929a969d94dd4918c675b003ca62119897113bda20fc680d404fbef8a9", func := "flong/flonglaw04.TrainsSure", spec := "trainsSure", unfollowed := true, recurses := true, apart := false }
def TrainsSureSaid : Prop := trainsSureRow.holds Try.pinned (OpenSpec.ofChange trainsSureSpec)

/-- ITS FALSE NEIGHBOUR: 'it returns false'. Refute it at one input. -/
def trainsSureWrong : ChangeSpec := { name := "trainsSure", fn := fun _ => fun
  | [d] => { results := [.lit (.bool false)], args := [d] }
  | _ => none }
def TrainsSureWrongFalsely : Prop := trainsSureRow.holds Try.pinned (OpenSpec.ofChange trainsSureWrong)

/-- 'flonglaw04.TrainsTimes': WHATEVER THE INPUT: true; the input reads as it did. -/
def trainsTimesSpec : ChangeSpec := { name := "trainsTimes", fn := fun _ => fun
  | [d1, d2] => { results := [.lit (.bool true)], args := [d1, d2] }
  | _ => none }
def trainsTimesRow : OpenClaim := { program := "yteijmboophnmgaa", sum := "7eb186929a969d94dd4918c675b003ca62119897113bda20fc680d404fbef8a9", func := "flong/flonglaw04.TrainsTimes", spec := "trainsTimes", unfollowed := true, recurses := true, apart := false }
def TrainsTimesSaid : Prop := trainsTimesRow.holds Try.pinned (OpenSpec.ofChange trainsTimesSpec)

/-- ITS FALSE NEIGHBOUR: 'it returns false'. Refute it at one input. -/
def trainsTimesWrong : ChangeSpec := { name := "trainsTimes", fn := fun _ => fun
  | [d1, d2] => { results := [.lit (.bool false)], args := [d1, d2] }
  | _ => none }
def TrainsTimesWrongFalsely : Prop := trainsTimesRow.holds Try.pinned (OpenSpec.ofChange trainsTimesWrong)

/-- 'flonglaw04.TrainsPlan': WHATEVER THE INPUT: true; the input reads as it did. -/
def trainsPlanSpec : ChangeSpec := { name := "trainsPlan", fn := fun _ => fun
  | [d1, d2] => { results := [.lit (.bool true)], args := [d1, d2] }
  | _ => none }
def trainsPlanRow : OpenClaim := { program := "yteijmboophnmgaa", sum := "7eb186929a969d94dd4918c675b003ca62119897113bda20fc680d404fbef8a9", func := "flong/flonglaw04.TrainsPlan", spec := "trainsPlan", unfollowed := true, recurses := true, apart := false }
def TrainsPlanSaid : Prop := trainsPlanRow.holds Try.pinned (OpenSpec.ofChange trainsPlanSpec)

/-- ITS FALSE NEIGHBOUR: 'it returns false'. Refute it at one input. -/
def trainsPlanWrong : ChangeSpec := { name := "trainsPlan", fn := fun _ => fun
  | [d1, d2] => { results := [.lit (.bool false)], args := [d1, d2] }
  | _ => none }
def TrainsPlanWrongFalsely : Prop := trainsPlanRow.holds Try.pinned (OpenSpec.ofChange trainsPlanWrong)

/-- 'flonglaw04.TrainsEach': WHATEVER THE INPUT: true; the input reads as it did. -/
def trainsEachSpec : ChangeSpec := { name := "trainsEach", fn := fun _ => fun
  | [d1, d2, d3] => { results := [.lit (.bool true)], args := [d1, d2, d3] }
  | _ => none }
def trainsEachRow : OpenClaim := { program := "yteijmboophnmgaa", sum := "7eb186929a969d94dd4918c675b003ca62119897113bda20fc680d404fbef8a9", func := "flong/flonglaw04.TrainsEach", spec := "trainsEach", unfollowed := true, recurses := true, apart := false }
def TrainsEachSaid : Prop := trainsEachRow.holds Try.pinned (OpenSpec.ofChange trainsEachSpec)

/-- ITS FALSE NEIGHBOUR: 'it returns false'. Refute it at one input. -/
def trainsEachWrong : ChangeSpec := { name := "trainsEach", fn := fun _ => fun
  | [d1, d2, d3] => { results := [.lit (.bool false)], args := [d1, d2, d3] }
  | _ => none }
def TrainsEachWrongFalsely : Prop := trainsEachRow.holds Try.pinned (OpenSpec.ofChange trainsEachWrong)

/- THE SECOND FORM. 'bulk': how many values and letters a reading holds, each counted each time it is reached (what is shared counts as often as it is met; a slice's spare places count too). A statement '..UptoSaid' is the law's where the arguments, and the package variables that the reading takes, are together of bulk at most 1048576: NARROWER than '..Said'. Prove '..Said' where nothing that the law and all that it calls make is longer than what came in: it says more and counts as full. Else prove '..UptoSaid'. A law counts once. -/
mutual
def uptoBulk {H : Type} : DataW H → Nat
  | .lit (.string bytes) => bytes.length + 1
  | .lit _ => 1
  | .nil => 1
  | .ptr d => uptoBulk d + 1
  | .slice elems spare => uptoBulkAll elems + uptoBulkAll spare + 1
  | .agg parts => uptoBulkAll parts + 1
  | .iface _ d => uptoBulk d + 1
  | .map entries => uptoBulkEntries entries + 1
  | .held _ => 1
def uptoBulkAll {H : Type} : List (DataW H) → Nat
  | [] => 0
  | d :: r => uptoBulk d + uptoBulkAll r
def uptoBulkEntries {H : Type} : List (Lit × DataW H) → Nat
  | [] => 0
  | x :: r => uptoBulkEntry x + uptoBulkEntries r
def uptoBulkEntry {H : Type} : Lit × DataW H → Nat
  | (.string bytes, d) => bytes.length + uptoBulk d + 1
  | (_, d) => uptoBulk d + 1
 end
def uptoSmall : (H : Type) → List (DataW H) → Bool := fun _ ds => decide (uptoBulkAll ds ≤ 1048576)
def OpenSpec.upto (s : _root_.Go.ChangeSpec) : _root_.Go.OpenSpec := { _root_.Go.OpenSpec.ofChange s with cond := some uptoSmall }

/-- 'flonglaw04.TrainsTold', WHERE WHAT IT READS IS OF BULK AT MOST 1048576: true; the input reads as it did. -/
def trainsToldUptoRow : OpenClaim := { program := "yteijmboophnmgaa", sum := "7eb186929a969d94dd4918c675b003ca62119897113bda20fc680d404fbef8a9", func := "flong/flonglaw04.TrainsTold", spec := "trainsTold", unfollowed := true, recurses := true, apart := false, narrowed := true }
def TrainsToldUptoSaid : Prop := trainsToldUptoRow.holds Try.pinned (OpenSpec.upto trainsToldSpec)

/-- 'flonglaw04.TrainsWaits', WHERE WHAT IT READS IS OF BULK AT MOST 1048576: true; the input reads as it did. -/
def trainsWaitsUptoRow : OpenClaim := { program := "yteijmboophnmgaa", sum := "7eb186929a969d94dd4918c675b003ca62119897113bda20fc680d404fbef8a9", func := "flong/flonglaw04.TrainsWaits", spec := "trainsWaits", unfollowed := true, recurses := true, apart := false, narrowed := true }
def TrainsWaitsUptoSaid : Prop := trainsWaitsUptoRow.holds Try.pinned (OpenSpec.upto trainsWaitsSpec)

/-- 'flonglaw04.TrainsSpare', WHERE WHAT IT READS IS OF BULK AT MOST 1048576: true; the input reads as it did. -/
def trainsSpareUptoRow : OpenClaim := { program := "yteijmboophnmgaa", sum := "7eb186929a969d94dd4918c675b003ca62119897113bda20fc680d404fbef8a9", func := "flong/flonglaw04.TrainsSpare", spec := "trainsSpare", unfollowed := true, recurses := true, apart := false, narrowed := true }
def TrainsSpareUptoSaid : Prop := trainsSpareUptoRow.holds Try.pinned (OpenSpec.upto trainsSpareSpec)

/-- 'flonglaw04.TrainsWait', WHERE WHAT IT READS IS OF BULK AT MOST 1048576: true; the input reads as it did. -/
def trainsWaitUptoRow : OpenClaim := { program := "yteijmboophnmgaa", sum := "7eb186929a969d94dd4918c675b003ca62119897113bda20fc680d404fbef8a9", func := "flong/flonglaw04.TrainsWait", spec := "trainsWait", unfollowed := true, recurses := true, apart := false, narrowed := true }
def TrainsWaitUptoSaid : Prop := trainsWaitUptoRow.holds Try.pinned (OpenSpec.upto trainsWaitSpec)

/-- 'flonglaw04.TrainsBetter', WHERE WHAT IT READS IS OF BULK AT MOST 1048576: true; the input reads as it did. -/
def trainsBetterUptoRow : OpenClaim := { program := "yteijmboophnmgaa", sum := "7eb186929a969d94dd4918c675b003ca62119897113bda20fc680d404fbef8a9", func := "flong/flonglaw04.TrainsBetter", spec := "trainsBetter", unfollowed := true, recurses := true, apart := false, narrowed := true }
def TrainsBetterUptoSaid : Prop := trainsBetterUptoRow.holds Try.pinned (OpenSpec.upto trainsBetterSpec)

/-- 'flonglaw04.TrainsMachine', WHERE WHAT IT READS IS OF BULK AT MOST 1048576: true; the input reads as it did. -/
def trainsMachineUptoRow : OpenClaim := { program := "yteijmboophnmgaa", sum := "7eb186929a969d94dd4918c675b003ca62119897113bda20fc680d404fbef8a9", func := "flong/flonglaw04.TrainsMachine", spec := "trainsMachine", unfollowed := true, recurses := true, apart := false, narrowed := true }
def TrainsMachineUptoSaid : Prop := trainsMachineUptoRow.holds Try.pinned (OpenSpec.upto trainsMachineSpec)

/-- 'flonglaw04.TrainsOrder', WHERE WHAT IT READS IS OF BULK AT MOST 1048576: true; the input reads as it did. -/
def trainsOrderUptoRow : OpenClaim := { program := "yteijmboophnmgaa", sum := "7eb186929a969d94dd4918c675b003ca62119897113bda20fc680d404fbef8a9", func := "flong/flonglaw04.TrainsOrder", spec := "trainsOrder", unfollowed := true, recurses := true, apart := false, narrowed := true }
def TrainsOrderUptoSaid : Prop := trainsOrderUptoRow.holds Try.pinned (OpenSpec.upto trainsOrderSpec)

/-- 'flonglaw04.TrainsEarliest', WHERE WHAT IT READS IS OF BULK AT MOST 1048576: true; the input reads as it did. -/
def trainsEarliestUptoRow : OpenClaim := { program := "yteijmboophnmgaa", sum := "7eb186929a969d94dd4918c675b003ca62119897113bda20fc680d404fbef8a9", func := "flong/flonglaw04.TrainsEarliest", spec := "trainsEarliest", unfollowed := true, recurses := true, apart := false, narrowed := true }
def TrainsEarliestUptoSaid : Prop := trainsEarliestUptoRow.holds Try.pinned (OpenSpec.upto trainsEarliestSpec)

/-- 'flonglaw04.TrainsSure', WHERE WHAT IT READS IS OF BULK AT MOST 1048576: true; the input reads as it did. -/
def trainsSureUptoRow : OpenClaim := { program := "yteijmboophnmgaa", sum := "7eb186929a969d94dd4918c675b003ca62119897113bda20fc680d404fbef8a9", func := "flong/flonglaw04.TrainsSure", spec := "trainsSure", unfollowed := true, recurses := true, apart := false, narrowed := true }
def TrainsSureUptoSaid : Prop := trainsSureUptoRow.holds Try.pinned (OpenSpec.upto trainsSureSpec)

/-- 'flonglaw04.TrainsTimes', WHERE WHAT IT READS IS OF BULK AT MOST 1048576: true; the input reads as it did. -/
def trainsTimesUptoRow : OpenClaim := { program := "yteijmboophnmgaa", sum := "7eb186929a969d94dd4918c675b003ca62119897113bda20fc680d404fbef8a9", func := "flong/flonglaw04.TrainsTimes", spec := "trainsTimes", unfollowed := true, recurses := true, apart := false, narrowed := true }
def TrainsTimesUptoSaid : Prop := trainsTimesUptoRow.holds Try.pinned (OpenSpec.upto trainsTimesSpec)

/-- 'flonglaw04.TrainsPlan', WHERE WHAT IT READS IS OF BULK AT MOST 1048576: true; the input reads as it did. -/
def trainsPlanUptoRow : OpenClaim := { program := "yteijmboophnmgaa", sum := "7eb186929a969d94dd4918c675b003ca62119897113bda20fc680d404fbef8a9", func := "flong/flonglaw04.TrainsPlan", spec := "trainsPlan", unfollowed := true, recurses := true, apart := false, narrowed := true }
def TrainsPlanUptoSaid : Prop := trainsPlanUptoRow.holds Try.pinned (OpenSpec.upto trainsPlanSpec)

/-- 'flonglaw04.TrainsEach', WHERE WHAT IT READS IS OF BULK AT MOST 1048576: true; the input reads as it did. -/
def trainsEachUptoRow : OpenClaim := { program := "yteijmboophnmgaa", sum := "7eb186929a969d94dd4918c675b003ca62119897113bda20fc680d404fbef8a9", func := "flong/flonglaw04.TrainsEach", spec := "trainsEach", unfollowed := true, recurses := true, apart := false, narrowed := true }
def TrainsEachUptoSaid : Prop := trainsEachUptoRow.holds Try.pinned (OpenSpec.upto trainsEachSpec)

end Rows
end Go.Proofs.Yteijmboophnmgaa
