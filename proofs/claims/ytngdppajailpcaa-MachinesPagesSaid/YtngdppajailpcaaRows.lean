/-
  No cell of these rows narrows 'for every input' (looked for: loops, veiled, ifaces, maps, wideKeys, modest, calm, conditions, laid).
  DERIVED. THE GIVEN ROWS OF THIS SEAT. 8 by the template 'for every input the law returns true; each argument reads behind the call as it read before'; 0 by the template 'total and deterministic' (their statements: YtngdppajailpcaaTotals.lean).
  GIVEN WITH THE SEED: the statements are not yours to turn. If you find one false, say at which input.
  Laid BY PROGRAM, IN A SANDBOX (cutbox-rows.mjs): the forced cells as the released guide's own fill.sh prints them over the translation 6571531e82fe00c0… (all of the seat's roots in one cut). By AI agents, Wed Nov 11 2026. No macro, syntax, notation, axiom, sorry.
-/
import Derived.Test.YtngdppajailpcaaChecked
import GoSem.Claim
import GoSem.ClaimJoined
import GoSem.ClaimMapViews
import Derived.JoinedTies
import Derived.KernelRfl
namespace Go.Proofs.Ytngdppajailpcaa
/- THE CELL 'sum', in the pinned program and in every row, IS THE sha256 OF THE DUMP (.gsa) THAT YtngdppajailpcaaProg.lean LOADS. Nothing in Lean hashes anything: it is a label: what it is worth is what the hold of that sum in a sandbox is worth. -/
noncomputable def Try.pinned : Pinned := { name := "ytngdppajailpcaa", sum := "6571531e82fe00c06255a1e1ee93a5f2bbbff9b6bd1eee6534f2e059ebff64bf", checked := Try.checked }
namespace Rows
def none {H : Type} : Left H := { results := [], args := [] }

/-- 'flonglaw09.MachinesExtra': WHATEVER THE INPUT: true; the input reads as it did. -/
def machinesExtraSpec : ChangeSpec := { name := "machinesExtra", fn := fun _ => fun
  | [d1, d2] => { results := [.lit (.bool true)], args := [d1, d2] }
  | _ => none }
def machinesExtraRow : OpenClaim := { program := "ytngdppajailpcaa", sum := "6571531e82fe00c06255a1e1ee93a5f2bbbff9b6bd1eee6534f2e059ebff64bf", func := "flong/flonglaw09.MachinesExtra", spec := "machinesExtra", unfollowed := true, recurses := true, plainKeys := false, apart := false }
def MachinesExtraSaid : Prop := machinesExtraRow.holds Try.pinned (OpenSpec.ofChange machinesExtraSpec)

/-- ITS FALSE NEIGHBOUR: 'it returns false'. Refute it at one input. -/
def machinesExtraWrong : ChangeSpec := { name := "machinesExtra", fn := fun _ => fun
  | [d1, d2] => { results := [.lit (.bool false)], args := [d1, d2] }
  | _ => none }
def MachinesExtraWrongFalsely : Prop := machinesExtraRow.holds Try.pinned (OpenSpec.ofChange machinesExtraWrong)

/-- 'flonglaw09.MachinesBores': WHATEVER THE INPUT: true; the input reads as it did. -/
def machinesBoresSpec : ChangeSpec := { name := "machinesBores", fn := fun _ => fun
  | [d1, d2, d3] => { results := [.lit (.bool true)], args := [d1, d2, d3] }
  | _ => none }
def machinesBoresRow : OpenClaim := { program := "ytngdppajailpcaa", sum := "6571531e82fe00c06255a1e1ee93a5f2bbbff9b6bd1eee6534f2e059ebff64bf", func := "flong/flonglaw09.MachinesBores", spec := "machinesBores", unfollowed := true, recurses := true, plainKeys := false, apart := false }
def MachinesBoresSaid : Prop := machinesBoresRow.holds Try.pinned (OpenSpec.ofChange machinesBoresSpec)

/-- ITS FALSE NEIGHBOUR: 'it returns false'. Refute it at one input. -/
def machinesBoresWrong : ChangeSpec := { name := "machinesBores", fn := fun _ => fun
  | [d1, d2, d3] => { results := [.lit (.bool false)], args := [d1, d2, d3] }
  | _ => none }
def MachinesBoresWrongFalsely : Prop := machinesBoresRow.holds Try.pinned (OpenSpec.ofChange machinesBoresWrong)

/-- 'flonglaw09.MachinesPages': WHATEVER THE INPUT: true; the input reads as it did. -/
def machinesPagesSpec : ChangeSpec := { name := "machinesPages", fn := fun _ => fun
  | [d1, d2, d3] => { results := [.lit (.bool true)], args := [d1, d2, d3] }
  | _ => none }
def machinesPagesRow : OpenClaim := { program := "ytngdppajailpcaa", sum := "6571531e82fe00c06255a1e1ee93a5f2bbbff9b6bd1eee6534f2e059ebff64bf", func := "flong/flonglaw09.MachinesPages", spec := "machinesPages", unfollowed := true, recurses := true, plainKeys := false, apart := false }
def MachinesPagesSaid : Prop := machinesPagesRow.holds Try.pinned (OpenSpec.ofChange machinesPagesSpec)

/-- ITS FALSE NEIGHBOUR: 'it returns false'. Refute it at one input. -/
def machinesPagesWrong : ChangeSpec := { name := "machinesPages", fn := fun _ => fun
  | [d1, d2, d3] => { results := [.lit (.bool false)], args := [d1, d2, d3] }
  | _ => none }
def MachinesPagesWrongFalsely : Prop := machinesPagesRow.holds Try.pinned (OpenSpec.ofChange machinesPagesWrong)

/-- 'flonglaw09.MachinesBetter': WHATEVER THE INPUT: true; the input reads as it did. -/
def machinesBetterSpec : ChangeSpec := { name := "machinesBetter", fn := fun _ => fun
  | [d1, d2] => { results := [.lit (.bool true)], args := [d1, d2] }
  | _ => none }
def machinesBetterRow : OpenClaim := { program := "ytngdppajailpcaa", sum := "6571531e82fe00c06255a1e1ee93a5f2bbbff9b6bd1eee6534f2e059ebff64bf", func := "flong/flonglaw09.MachinesBetter", spec := "machinesBetter", unfollowed := true, recurses := true, plainKeys := false, apart := false }
def MachinesBetterSaid : Prop := machinesBetterRow.holds Try.pinned (OpenSpec.ofChange machinesBetterSpec)

/-- ITS FALSE NEIGHBOUR: 'it returns false'. Refute it at one input. -/
def machinesBetterWrong : ChangeSpec := { name := "machinesBetter", fn := fun _ => fun
  | [d1, d2] => { results := [.lit (.bool false)], args := [d1, d2] }
  | _ => none }
def MachinesBetterWrongFalsely : Prop := machinesBetterRow.holds Try.pinned (OpenSpec.ofChange machinesBetterWrong)

/-- 'flonglaw09.MachinesCalm': WHATEVER THE INPUT: true; the input reads as it did. -/
def machinesCalmSpec : ChangeSpec := { name := "machinesCalm", fn := fun _ => fun
  | [d] => { results := [.lit (.bool true)], args := [d] }
  | _ => none }
def machinesCalmRow : OpenClaim := { program := "ytngdppajailpcaa", sum := "6571531e82fe00c06255a1e1ee93a5f2bbbff9b6bd1eee6534f2e059ebff64bf", func := "flong/flonglaw09.MachinesCalm", spec := "machinesCalm", unfollowed := true, recurses := true, plainKeys := false, apart := false }
def MachinesCalmSaid : Prop := machinesCalmRow.holds Try.pinned (OpenSpec.ofChange machinesCalmSpec)

/-- ITS FALSE NEIGHBOUR: 'it returns false'. Refute it at one input. -/
def machinesCalmWrong : ChangeSpec := { name := "machinesCalm", fn := fun _ => fun
  | [d] => { results := [.lit (.bool false)], args := [d] }
  | _ => none }
def MachinesCalmWrongFalsely : Prop := machinesCalmRow.holds Try.pinned (OpenSpec.ofChange machinesCalmWrong)

/-- 'flonglaw09.MachinesMore': WHATEVER THE INPUT: true; the input reads as it did. -/
def machinesMoreSpec : ChangeSpec := { name := "machinesMore", fn := fun _ => fun
  | [d1, d2, d3] => { results := [.lit (.bool true)], args := [d1, d2, d3] }
  | _ => none }
def machinesMoreRow : OpenClaim := { program := "ytngdppajailpcaa", sum := "6571531e82fe00c06255a1e1ee93a5f2bbbff9b6bd1eee6534f2e059ebff64bf", func := "flong/flonglaw09.MachinesMore", spec := "machinesMore", unfollowed := true, recurses := true, plainKeys := false, apart := false }
def MachinesMoreSaid : Prop := machinesMoreRow.holds Try.pinned (OpenSpec.ofChange machinesMoreSpec)

/-- ITS FALSE NEIGHBOUR: 'it returns false'. Refute it at one input. -/
def machinesMoreWrong : ChangeSpec := { name := "machinesMore", fn := fun _ => fun
  | [d1, d2, d3] => { results := [.lit (.bool false)], args := [d1, d2, d3] }
  | _ => none }
def MachinesMoreWrongFalsely : Prop := machinesMoreRow.holds Try.pinned (OpenSpec.ofChange machinesMoreWrong)

/-- 'flonglaw09.MachinesNeed': WHATEVER THE INPUT: true; the input reads as it did. -/
def machinesNeedSpec : ChangeSpec := { name := "machinesNeed", fn := fun _ => fun
  | [d1, d2, d3] => { results := [.lit (.bool true)], args := [d1, d2, d3] }
  | _ => none }
def machinesNeedRow : OpenClaim := { program := "ytngdppajailpcaa", sum := "6571531e82fe00c06255a1e1ee93a5f2bbbff9b6bd1eee6534f2e059ebff64bf", func := "flong/flonglaw09.MachinesNeed", spec := "machinesNeed", unfollowed := true, recurses := true, plainKeys := false, apart := false }
def MachinesNeedSaid : Prop := machinesNeedRow.holds Try.pinned (OpenSpec.ofChange machinesNeedSpec)

/-- ITS FALSE NEIGHBOUR: 'it returns false'. Refute it at one input. -/
def machinesNeedWrong : ChangeSpec := { name := "machinesNeed", fn := fun _ => fun
  | [d1, d2, d3] => { results := [.lit (.bool false)], args := [d1, d2, d3] }
  | _ => none }
def MachinesNeedWrongFalsely : Prop := machinesNeedRow.holds Try.pinned (OpenSpec.ofChange machinesNeedWrong)

/-- 'flonglaw09.MachinesPlan': WHATEVER THE INPUT: true; the input reads as it did. -/
def machinesPlanSpec : ChangeSpec := { name := "machinesPlan", fn := fun _ => fun
  | [d1, d2] => { results := [.lit (.bool true)], args := [d1, d2] }
  | _ => none }
def machinesPlanRow : OpenClaim := { program := "ytngdppajailpcaa", sum := "6571531e82fe00c06255a1e1ee93a5f2bbbff9b6bd1eee6534f2e059ebff64bf", func := "flong/flonglaw09.MachinesPlan", spec := "machinesPlan", unfollowed := true, recurses := true, plainKeys := false, apart := false }
def MachinesPlanSaid : Prop := machinesPlanRow.holds Try.pinned (OpenSpec.ofChange machinesPlanSpec)

/-- ITS FALSE NEIGHBOUR: 'it returns false'. Refute it at one input. -/
def machinesPlanWrong : ChangeSpec := { name := "machinesPlan", fn := fun _ => fun
  | [d1, d2] => { results := [.lit (.bool false)], args := [d1, d2] }
  | _ => none }
def MachinesPlanWrongFalsely : Prop := machinesPlanRow.holds Try.pinned (OpenSpec.ofChange machinesPlanWrong)

/- THE SECOND FORM. 'bulk': how many values and letters a reading holds, each counted each time it is reached (what is shared counts as often as it is met; a slice's spare places count too). A statement '..UptoSaid' is the law's where the arguments, and the package variables that the reading takes, are together of bulk at most 1048576: NARROWER than '..Said'. Prove '..Said' where nothing that the law and all that it calls make is longer than what came in: it says more and counts as full. Else prove '..UptoSaid'. A law counts once. -/
mutual
def uptoBulk {H : Type} : DataW H → Nat
  | .lit (.string bytes) => bytes.length + 1
  | .lit _ => 1
  | .nil => 1
  | .ptr d => uptoBulk d + 1
  | .slice elems spare => uptoBulkAll elems + uptoBulkAll spare + 1
  | .agg parts => uptoBulkAll parts + 1
  | .iface _ d => uptoBulk d + 1
  | .map entries => uptoBulkEntries entries + 1
  | .held _ => 1
def uptoBulkAll {H : Type} : List (DataW H) → Nat
  | [] => 0
  | d :: r => uptoBulk d + uptoBulkAll r
def uptoBulkEntries {H : Type} : List (Lit × DataW H) → Nat
  | [] => 0
  | x :: r => uptoBulkEntry x + uptoBulkEntries r
def uptoBulkEntry {H : Type} : Lit × DataW H → Nat
  | (.string bytes, d) => bytes.length + uptoBulk d + 1
  | (_, d) => uptoBulk d + 1
 end
def uptoSmall : (H : Type) → List (DataW H) → Bool := fun _ ds => decide (uptoBulkAll ds ≤ 1048576)
def OpenSpec.upto (s : _root_.Go.ChangeSpec) : _root_.Go.OpenSpec := { _root_.Go.OpenSpec.ofChange s with cond := some uptoSmall }

/-- 'flonglaw09.MachinesExtra', WHERE WHAT IT READS IS OF BULK AT MOST 1048576: true; the input reads as it did. -/
def machinesExtraUptoRow : OpenClaim := { program := "ytngdppajailpcaa", sum := "6571531e82fe00c06255a1e1ee93a5f2bbbff9b6bd1eee6534f2e059ebff64bf", func := "flong/flonglaw09.MachinesExtra", spec := "machinesExtra", unfollowed := true, recurses := true, plainKeys := false, apart := false, narrowed := true }
def MachinesExtraUptoSaid : Prop := machinesExtraUptoRow.holds Try.pinned (OpenSpec.upto machinesExtraSpec)

/-- 'flonglaw09.MachinesBores', WHERE WHAT IT READS IS OF BULK AT MOST 1048576: true; the input reads as it did. -/
def machinesBoresUptoRow : OpenClaim := { program := "ytngdppajailpcaa", sum := "6571531e82fe00c06255a1e1ee93a5f2bbbff9b6bd1eee6534f2e059ebff64bf", func := "flong/flonglaw09.MachinesBores", spec := "machinesBores", unfollowed := true, recurses := true, plainKeys := false, apart := false, narrowed := true }
def MachinesBoresUptoSaid : Prop := machinesBoresUptoRow.holds Try.pinned (OpenSpec.upto machinesBoresSpec)

/-- 'flonglaw09.MachinesPages', WHERE WHAT IT READS IS OF BULK AT MOST 1048576: true; the input reads as it did. -/
def machinesPagesUptoRow : OpenClaim := { program := "ytngdppajailpcaa", sum := "6571531e82fe00c06255a1e1ee93a5f2bbbff9b6bd1eee6534f2e059ebff64bf", func := "flong/flonglaw09.MachinesPages", spec := "machinesPages", unfollowed := true, recurses := true, plainKeys := false, apart := false, narrowed := true }
def MachinesPagesUptoSaid : Prop := machinesPagesUptoRow.holds Try.pinned (OpenSpec.upto machinesPagesSpec)

/-- 'flonglaw09.MachinesBetter', WHERE WHAT IT READS IS OF BULK AT MOST 1048576: true; the input reads as it did. -/
def machinesBetterUptoRow : OpenClaim := { program := "ytngdppajailpcaa", sum := "6571531e82fe00c06255a1e1ee93a5f2bbbff9b6bd1eee6534f2e059ebff64bf", func := "flong/flonglaw09.MachinesBetter", spec := "machinesBetter", unfollowed := true, recurses := true, plainKeys := false, apart := false, narrowed := true }
def MachinesBetterUptoSaid : Prop := machinesBetterUptoRow.holds Try.pinned (OpenSpec.upto machinesBetterSpec)

/-- 'flonglaw09.MachinesCalm', WHERE WHAT IT READS IS OF BULK AT MOST 1048576: true; the input reads as it did. -/
def machinesCalmUptoRow : OpenClaim := { program := "ytngdppajailpcaa", sum := "6571531e82fe00c06255a1e1ee93a5f2bbbff9b6bd1eee6534f2e059ebff64bf", func := "flong/flonglaw09.MachinesCalm", spec := "machinesCalm", unfollowed := true, recurses := true, plainKeys := false, apart := false, narrowed := true }
def MachinesCalmUptoSaid : Prop := machinesCalmUptoRow.holds Try.pinned (OpenSpec.upto machinesCalmSpec)

/-- 'flonglaw09.MachinesMore', WHERE WHAT IT READS IS OF BULK AT MOST 1048576: true; the input reads as it did. -/
def machinesMoreUptoRow : OpenClaim := { program := "ytngdppajailpcaa", sum := "6571531e82fe00c06255a1e1ee93a5f2bbbff9b6bd1eee6534f2e059ebff64bf", func := "flong/flonglaw09.MachinesMore", spec := "machinesMore", unfollowed := true, recurses := true, plainKeys := false, apart := false, narrowed := true }
def MachinesMoreUptoSaid : Prop := machinesMoreUptoRow.holds Try.pinned (OpenSpec.upto machinesMoreSpec)

/-- 'flonglaw09.MachinesNeed', WHERE WHAT IT READS IS OF BULK AT MOST 1048576: true; the input reads as it did. -/
def machinesNeedUptoRow : OpenClaim := { program := "ytngdppajailpcaa", sum := "6571531e82fe00c06255a1e1ee93a5f2bbbff9b6bd1eee6534f2e059ebff64bf", func := "flong/flonglaw09.MachinesNeed", spec := "machinesNeed", unfollowed := true, recurses := true, plainKeys := false, apart := false, narrowed := true }
def MachinesNeedUptoSaid : Prop := machinesNeedUptoRow.holds Try.pinned (OpenSpec.upto machinesNeedSpec)

/-- 'flonglaw09.MachinesPlan', WHERE WHAT IT READS IS OF BULK AT MOST 1048576: true; the input reads as it did. -/
def machinesPlanUptoRow : OpenClaim := { program := "ytngdppajailpcaa", sum := "6571531e82fe00c06255a1e1ee93a5f2bbbff9b6bd1eee6534f2e059ebff64bf", func := "flong/flonglaw09.MachinesPlan", spec := "machinesPlan", unfollowed := true, recurses := true, plainKeys := false, apart := false, narrowed := true }
def MachinesPlanUptoSaid : Prop := machinesPlanUptoRow.holds Try.pinned (OpenSpec.upto machinesPlanSpec)

end Rows
end Go.Proofs.Ytngdppajailpcaa
