/-
  No cell of these rows narrows 'for every input' (looked for: loops, veiled, ifaces, maps, wideKeys, modest, calm, conditions, laid).
  DERIVED. THE GIVEN ROWS OF THIS SEAT. 5 by the template 'for every input the law returns true; each argument reads behind the call as it read before'; 0 by the template 'total and deterministic' (their statements: YtngdppajailpcaaGreatTotals.lean).
  GIVEN WITH THE SEED: the statements are not yours to turn. If you find one false, say at which input.
  Laid BY PROGRAM, IN A SANDBOX (cutbox-rows.mjs): the forced cells as the released guide's own fill.sh prints them over the translation 794d5e80b2ec3761… (all of the seat's roots in one cut). By AI agents, Wed Nov 11 2026. No macro, syntax, notation, axiom, sorry.
-/
import Derived.Test.YtngdppajailpcaaGreatChecked
import GoSem.Claim
import GoSem.ClaimJoined
import GoSem.ClaimMapViews
import Derived.JoinedTies
import Derived.KernelRfl
namespace Go.Proofs.YtngdppajailpcaaGreat
/- THE CELL 'sum', in the pinned program and in every row, IS THE sha256 OF THE DUMP (.gsa) THAT YtngdppajailpcaaGreatProg.lean LOADS. Nothing in Lean hashes anything: it is a label: what it is worth is what the hold of that sum in a sandbox is worth. -/
noncomputable def Tryz.pinned : Pinned := { name := "ytngdppajailpcaagreat", sum := "794d5e80b2ec3761410214a922205701d652cae43539c16f5cf50c559257d402", checked := Tryz.checked }
namespace Rows
def none {H : Type} : Left H := { results := [], args := [] }

/-- 'flonglaw09.MachinesGain': WHATEVER THE INPUT: true; the input reads as it did. -/
def machinesGainSpec : ChangeSpec := { name := "machinesGain", fn := fun _ => fun
  | [d1, d2, d3] => { results := [.lit (.bool true)], args := [d1, d2, d3] }
  | _ => none }
def machinesGainRow : OpenClaim := { program := "ytngdppajailpcaagreat", sum := "794d5e80b2ec3761410214a922205701d652cae43539c16f5cf50c559257d402", func := "flong/flonglaw09.MachinesGain", spec := "machinesGain", unfollowed := true, recurses := true, plainKeys := false, apart := false }
def MachinesGainSaid : Prop := machinesGainRow.holds Tryz.pinned (OpenSpec.ofChange machinesGainSpec)

/-- ITS FALSE NEIGHBOUR: 'it returns false'. Refute it at one input. -/
def machinesGainWrong : ChangeSpec := { name := "machinesGain", fn := fun _ => fun
  | [d1, d2, d3] => { results := [.lit (.bool false)], args := [d1, d2, d3] }
  | _ => none }
def MachinesGainWrongFalsely : Prop := machinesGainRow.holds Tryz.pinned (OpenSpec.ofChange machinesGainWrong)

/-- 'flonglaw09.MachinesFewest': WHATEVER THE INPUT: true; the input reads as it did. -/
def machinesFewestSpec : ChangeSpec := { name := "machinesFewest", fn := fun _ => fun
  | [d] => { results := [.lit (.bool true)], args := [d] }
  | _ => none }
def machinesFewestRow : OpenClaim := { program := "ytngdppajailpcaagreat", sum := "794d5e80b2ec3761410214a922205701d652cae43539c16f5cf50c559257d402", func := "flong/flonglaw09.MachinesFewest", spec := "machinesFewest", unfollowed := true, recurses := true, plainKeys := false, apart := false }
def MachinesFewestSaid : Prop := machinesFewestRow.holds Tryz.pinned (OpenSpec.ofChange machinesFewestSpec)

/-- ITS FALSE NEIGHBOUR: 'it returns false'. Refute it at one input. -/
def machinesFewestWrong : ChangeSpec := { name := "machinesFewest", fn := fun _ => fun
  | [d] => { results := [.lit (.bool false)], args := [d] }
  | _ => none }
def MachinesFewestWrongFalsely : Prop := machinesFewestRow.holds Tryz.pinned (OpenSpec.ofChange machinesFewestWrong)

/-- 'flonglaw09.MachinesCan': WHATEVER THE INPUT: true; the input reads as it did. -/
def machinesCanSpec : ChangeSpec := { name := "machinesCan", fn := fun _ => fun
  | [d1, d2] => { results := [.lit (.bool true)], args := [d1, d2] }
  | _ => none }
def machinesCanRow : OpenClaim := { program := "ytngdppajailpcaagreat", sum := "794d5e80b2ec3761410214a922205701d652cae43539c16f5cf50c559257d402", func := "flong/flonglaw09.MachinesCan", spec := "machinesCan", unfollowed := true, recurses := true, plainKeys := false, apart := false }
def MachinesCanSaid : Prop := machinesCanRow.holds Tryz.pinned (OpenSpec.ofChange machinesCanSpec)

/-- ITS FALSE NEIGHBOUR: 'it returns false'. Refute it at one input. -/
def machinesCanWrong : ChangeSpec := { name := "machinesCan", fn := fun _ => fun
  | [d1, d2] => { results := [.lit (.bool false)], args := [d1, d2] }
  | _ => none }
def MachinesCanWrongFalsely : Prop := machinesCanRow.holds Tryz.pinned (OpenSpec.ofChange machinesCanWrong)

/-- 'flonglaw09.MachinesIdle': WHATEVER THE INPUT: true; the input reads as it did. -/
def machinesIdleSpec : ChangeSpec := { name := "machinesIdle", fn := fun _ => fun
  | [d1, d2] => { results := [.lit (.bool true)], args := [d1, d2] }
  | _ => none }
def machinesIdleRow : OpenClaim := { program := "ytngdppajailpcaagreat", sum := "794d5e80b2ec3761410214a922205701d652cae43539c16f5cf50c559257d402", func := "flong/flonglaw09.MachinesIdle", spec := "machinesIdle", unfollowed := true, recurses := true, plainKeys := false, apart := false }
def MachinesIdleSaid : Prop := machinesIdleRow.holds Tryz.pinned (OpenSpec.ofChange machinesIdleSpec)

/-- ITS FALSE NEIGHBOUR: 'it returns false'. Refute it at one input. -/
def machinesIdleWrong : ChangeSpec := { name := "machinesIdle", fn := fun _ => fun
  | [d1, d2] => { results := [.lit (.bool false)], args := [d1, d2] }
  | _ => none }
def MachinesIdleWrongFalsely : Prop := machinesIdleRow.holds Tryz.pinned (OpenSpec.ofChange machinesIdleWrong)

/-- 'flonglaw09.MachinesEnough': WHATEVER THE INPUT: true; the input reads as it did. -/
def machinesEnoughSpec : ChangeSpec := { name := "machinesEnough", fn := fun _ => fun
  | [d1, d2] => { results := [.lit (.bool true)], args := [d1, d2] }
  | _ => none }
def machinesEnoughRow : OpenClaim := { program := "ytngdppajailpcaagreat", sum := "794d5e80b2ec3761410214a922205701d652cae43539c16f5cf50c559257d402", func := "flong/flonglaw09.MachinesEnough", spec := "machinesEnough", unfollowed := true, recurses := true, plainKeys := false, apart := false }
def MachinesEnoughSaid : Prop := machinesEnoughRow.holds Tryz.pinned (OpenSpec.ofChange machinesEnoughSpec)

/-- ITS FALSE NEIGHBOUR: 'it returns false'. Refute it at one input. -/
def machinesEnoughWrong : ChangeSpec := { name := "machinesEnough", fn := fun _ => fun
  | [d1, d2] => { results := [.lit (.bool false)], args := [d1, d2] }
  | _ => none }
def MachinesEnoughWrongFalsely : Prop := machinesEnoughRow.holds Tryz.pinned (OpenSpec.ofChange machinesEnoughWrong)

/- THE SECOND FORM. 'bulk': how many values and letters a reading holds, each counted each time it is reached (what is shared counts as often as it is met; a slice's spare places count too). A statement '..UptoSaid' is the law's where the arguments, and the package variables that the reading takes, are together of bulk at most 1048576: NARROWER than '..Said'. Prove '..Said' where nothing that the law and all that it calls make is longer than what came in: it says more and counts as full. Else prove '..UptoSaid'. A law counts once. -/
mutual
def uptoBulk {H : Type} : DataW H → Nat
  | .lit (.string bytes) => bytes.length + 1
  | .lit _ => 1
  | .nil => 1
  | .ptr d => uptoBulk d + 1
  | .slice elems spare => uptoBulkAll elems + uptoBulkAll spare + 1
  | .agg parts => uptoBulkAll parts + 1
  | .iface _ d => uptoBulk d + 1
  | .map entries => uptoBulkEntries entries + 1
  | .held _ => 1
def uptoBulkAll {H : Type} : List (DataW H) → Nat
  | [] => 0
  | d :: r => uptoBulk d + uptoBulkAll r
def uptoBulkEntries {H : Type} : List (Lit × DataW H) → Nat
  | [] => 0
  | x :: r => uptoBulkEntry x + uptoBulkEntries r
def uptoBulkEntry {H : Type} : Lit × DataW H → Nat
  | (.string bytes, d) => bytes.length + uptoBulk d + 1
  | (_, d) => uptoBulk d + 1
 end
def uptoSmall : (H : Type) → List (DataW H) → Bool := fun _ ds => decide (uptoBulkAll ds ≤ 1048576)
def OpenSpec.upto (s : _root_.Go.ChangeSpec) : _root_.Go.OpenSpec := { _root_.Go.OpenSpec.ofChange s with cond := some uptoSmall }

/-- 'flonglaw09.MachinesGain', WHERE WHAT IT READS IS OF BULK AT MOST 1048576: true; the input reads as it did. -/
def machinesGainUptoRow : OpenClaim := { program := "ytngdppajailpcaagreat", sum := "794d5e80b2ec3761410214a922205701d652cae43539c16f5cf50c559257d402", func := "flong/flonglaw09.MachinesGain", spec := "machinesGain", unfollowed := true, recurses := true, plainKeys := false, apart := false, narrowed := true }
def MachinesGainUptoSaid : Prop := machinesGainUptoRow.holds Tryz.pinned (OpenSpec.upto machinesGainSpec)

/-- 'flonglaw09.MachinesFewest', WHERE WHAT IT READS IS OF BULK AT MOST 1048576: true; the input reads as it did. -/
def machinesFewestUptoRow : OpenClaim := { program := "ytngdppajailpcaagreat", sum := "794d5e80b2ec3761410214a922205701d652cae43539c16f5cf50c559257d402", func := "flong/flonglaw09.MachinesFewest", spec := "machinesFewest", unfollowed := true, recurses := true, plainKeys := false, apart := false, narrowed := true }
def MachinesFewestUptoSaid : Prop := machinesFewestUptoRow.holds Tryz.pinned (OpenSpec.upto machinesFewestSpec)

/-- 'flonglaw09.MachinesCan', WHERE WHAT IT READS IS OF BULK AT MOST 1048576: true; the input reads as it did. -/
def machinesCanUptoRow : OpenClaim := { program := "ytngdppajailpcaagreat", sum := "794d5e80b2ec3761410214a922205701d652cae43539c16f5cf50c559257d402", func := "flong/flonglaw09.MachinesCan", spec := "machinesCan", unfollowed := true, recurses := true, plainKeys := false, apart := false, narrowed := true }
def MachinesCanUptoSaid : Prop := machinesCanUptoRow.holds Tryz.pinned (OpenSpec.upto machinesCanSpec)

/-- 'flonglaw09.MachinesIdle', WHERE WHAT IT READS IS OF BULK AT MOST 1048576: true; the input reads as it did. -/
def machinesIdleUptoRow : OpenClaim := { program := "ytngdppajailpcaagreat", sum := "794d5e80b2ec3761410214a922205701d652cae43539c16f5cf50c559257d402", func := "flong/flonglaw09.MachinesIdle", spec := "machinesIdle", unfollowed := true, recurses := true, plainKeys := false, apart := false, narrowed := true }
def MachinesIdleUptoSaid : Prop := machinesIdleUptoRow.holds Tryz.pinned (OpenSpec.upto machinesIdleSpec)

/-- 'flonglaw09.MachinesEnough', WHERE WHAT IT READS IS OF BULK AT MOST 1048576: true; the input reads as it did. -/
def machinesEnoughUptoRow : OpenClaim := { program := "ytngdppajailpcaagreat", sum := "794d5e80b2ec3761410214a922205701d652cae43539c16f5cf50c559257d402", func := "flong/flonglaw09.MachinesEnough", spec := "machinesEnough", unfollowed := true, recurses := true, plainKeys := false, apart := false, narrowed := true }
def MachinesEnoughUptoSaid : Prop := machinesEnoughUptoRow.holds Tryz.pinned (OpenSpec.upto machinesEnoughSpec)

end Rows
end Go.Proofs.YtngdppajailpcaaGreat
