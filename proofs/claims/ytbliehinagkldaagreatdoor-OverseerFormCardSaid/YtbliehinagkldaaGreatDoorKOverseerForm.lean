/- Proved here: OverseerFormCardSaid: the law OverseerForm returns true for all towns and lines, and they read afterwards as they did. Conditions: none beyond those of the given statement. -/
import Derived.Test.YtbliehinagkldaaGreatDoorSOverseerForm
import Derived.Test.YtbliehinagkldaaGreatDoorRows
import Derived.Test.YtbliehinagkldaaGreatDoorTie
import Derived.Test.YtbliehinagkldaaGreatDoorCards
import Derived.ProofKit
import Derived.SevenTiedAt
set_option linter.all false
set_option maxRecDepth 100000
set_option maxHeartbeats 16000000
namespace Go.Proofs.YtbliehinagkldaaGreatDoor
section
open Go.ChangeShapes Go.WideShapes Go.ChangeAt Go.RowKit
theorem overseerForm_card:Rows.OverseerFormCardSaid:=
 Claim7.holds_tied_plain_at .later [] [.data,.data,.data,.data,.sentinel,.sentinel,.pinned] true (true,"3a18a216c62359e0f06e1d3014de965bc5ce7d300dd5c1fbe8bd8daf270ca578") true
  overseerForm_said (fun _ h=>by cases h) (by kernel_rfl) (fun _ h=>by cases h) overseerForm_row_tie rfl ⟨rfl,rfl⟩ (by kernel_rfl) rfl
  (fun f fn hf hfn=>by
   obtain rfl:f=13:=Option.some.inj ((show Tryz.prog.funcNamed "flong/flonglaw12.OverseerForm" =some 13 by kernel_rfl).symm.trans hf) |>.symm
   obtain rfl:fn=Tryz.f13:=(Option.some.inj (Tryz.func13.symm.trans hfn)).symm
   exact⟨by kernel_rfl,fun j t ht=>by
    rw[Tryz.params13]at ht
    have hm:t∈[32,9]:=by simpa using Array.mem_of_getElem? ht
    have hall:([32,9].all fun u=> !Tryz.prog.wantsStandIn u)=true:=by kernel_rfl
    exact(show Tryz.prog.wantsStandIn t=false by simpa using List.all_eq_true.1 hall t hm)⟩)
  (by kernel_rfl)
end
end Go.Proofs.YtbliehinagkldaaGreatDoor
