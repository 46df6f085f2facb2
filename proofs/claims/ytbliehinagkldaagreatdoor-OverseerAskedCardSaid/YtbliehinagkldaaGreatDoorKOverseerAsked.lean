/- Proved here: OverseerAskedCardSaid: the law OverseerAsked returns true for all towns, trains and moulds, and they read afterwards as they did. Conditions: none beyond those of the given statement. -/
import Derived.Test.YtbliehinagkldaaGreatDoorSOverseerAsked
import Derived.Test.YtbliehinagkldaaGreatDoorTie
import Derived.Test.YtbliehinagkldaaGreatDoorCards
set_option linter.all false
set_option maxRecDepth 100000
set_option maxHeartbeats 16000000
namespace Go.Proofs.YtbliehinagkldaaGreatDoor
section
open Go.ChangeShapes Go.WideShapes Go.ChangeAt Go.RowKit
theorem overseerAsked_card:Rows.OverseerAskedCardSaid:=
 Claim7.holds_tied_plain_at .later [] [.data,.data,.data,.data,.sentinel,.sentinel,.pinned] true (true,"3a18a216c62359e0f06e1d3014de965bc5ce7d300dd5c1fbe8bd8daf270ca578") true
  overseerAsked_said (fun _ h=>by cases h) (by kernel_rfl) (fun _ h=>by cases h) overseerAsked_row_tie rfl ⟨rfl,rfl⟩ (by kernel_rfl) rfl
  (fun f fn hf hfn=>by
   obtain rfl:f=9:=Option.some.inj ((show Tryz.prog.funcNamed "flong/flonglaw12.OverseerAsked" =some 9 by kernel_rfl).symm.trans hf) |>.symm
   obtain rfl:fn=Tryz.f9:=(Option.some.inj (Tryz.func9.symm.trans hfn)).symm
   exact⟨by kernel_rfl,fun j t ht=>by
    rw[Tryz.params9]at ht
    have hm:t∈[32,3,3]:=by simpa using Array.mem_of_getElem? ht
    have hall:([32,3,3].all fun u=> !Tryz.prog.wantsStandIn u)=true:=by kernel_rfl
    exact(show Tryz.prog.wantsStandIn t=false by simpa using List.all_eq_true.1 hall t hm)⟩)
  (by kernel_rfl)
end
end Go.Proofs.YtbliehinagkldaaGreatDoor
