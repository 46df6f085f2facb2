/- The lifting of the law OverseerForm (names and blanks made short by a program). -/
import Derived.Test.YtbliehinagkldaaGreatDoorWOverseerForm
import Derived.Test.YtbliehinagkldaaGreatDoorG01
import Derived.Test.YtbliehinagkldaaGreatDoorG03
import Derived.Test.YtbliehinagkldaaGreatDoorG04
import Derived.Test.YtbliehinagkldaaGreatDoorG05
import Derived.Test.YtbliehinagkldaaGreatDoorG10
import Derived.Test.YtbliehinagkldaaGreatDoorG19
import Derived.Deep.Slices
import Derived.SizedLaws
import Derived.OpenShut
import Derived.Lib.SmallJoins
import Derived.Deep.Strs
import Derived.Test.YtbliehinagkldaaGreatDoorRows
import Derived.ProofKit
import Derived.SevenTiedAt
import Derived.Rings
set_option linter.all false
set_option maxRecDepth 100000
set_option maxHeartbeats 16000000
open Go.Lib renaming hid → fe6
open List renaming length_append → ff4, length_singleton → ff7, length_cons → ff8, cons_append → fg2, length_map → fg5, take_of_length_le → fg7
open Nat renaming le_refl → fh0, add_zero → fh2, zero_le → fh3
namespace Go.Proofs.YtbliehinagkldaaGreatDoor
open Go.Proofs.YtbliehinagkldaaGreatDoor renaming u7 → uI7
section
open Go.ChangeShapes Go.WideShapes Go.ChangeAt Go.RowKit
theorem bJ6:ownKnob Tryz.prog.godebug=none:=by kernel_rfl
theorem bB9:laidOutB Tryz.prog=true:=by kernel_rfl
theorem br4 (os:Os) (started:os.Started) (H:Type) (enc:TypeId × Value→H):
 ReturnsInHanded {} Tryz.checked os 13 .any (fun w args=>(Rows.overseerFormSpec.pre enc Tryz.prog Tryz.f13 [] false w args∧laidMetH Tryz.prog aw0 w)∧sizedMet enc Tryz.prog Tryz.f13 (OpenSpec.ofChange Rows.overseerFormSpec) false w args)
  (Rows.overseerFormSpec.post enc Tryz.prog Tryz.f13 false true false false):=by
 refine aG2 (C:=Tryz.checked) (X:=fun w _=>laidMetH Tryz.prog aw0 w) (fun _ _ _ hh h=>h.of_heap hh) bJ6 started (by kernel_rfl) Tryz.func13
  (ChangeSpec.witness_shaped (enc:=enc) (C:=Tryz.checked) (os:=os) (X:=fun w _=>laidMetH Tryz.prog aw0 w) false (bB1 os) #[.agg #[.slice none 0 0,.slice none 0 0,.slice none 0 0,.int .i64 0,.slice none 0 0,.slice none 0 0,.slice none 0 0,.int .i64 0],.string ⟨#[]⟩] 8 rfl (aO5 os _) (by kernel_rfl) (by kernel_rfl) (by kernel_rfl) (bm3 os _)) ?_
 intro W base args ds gs before hval0 hW _ hsz hlaid bJ5 _
 have hval:∀(j:Nat) t v,Tryz.f13.params[j]? =some t→args[j]? =some v→Value.okWide Tryz.prog W .any base t v:=hval0
 have hW':=hW
 obtain⟨p,q,hA0,hV,rfl,_,_⟩:=hW
 have hA:DataW.TrodAll enc Tryz.prog W 0 (fun _=>true) true Tryz.f13.params.toList args.toList ds p:=hA0
 have hS:(DataW.weightsEach Tryz.prog (Tryz.f13.params.toList++[]) (ds++gs)).all (·≤reachBytes)=true:=hsz
 rw[Tryz.params13]at hA hval hS
 obtain⟨v0,v1,d0,d1,p0,p1,rfl,rfl,rfl,h0,h1⟩:=trodAll_two hA
 obtain⟨rfl,rfl⟩:=trodVars_none hV
 clear hA0 hval0 hsz
 simp only[List.append_nil]at hW' hS
 have hlt:∀x∈p0++p1,x.block<W.heap.size:=fun x hx=>by simpa using hW'.lt x hx
 have bo3:∀W',Below W.heap.size W W'→DataW.Trod enc Tryz.prog W' 0 (fun b=>decide (b<W.heap.size)) true 32 v0 d0 p0:=fun W' hb=>
  Below.trod bB9 (by kernel_rfl) (of_decide_eq_true (by kernel_rfl)) h0 hb (fun x hx=>hlt x (List.mem_append.2 (.inl hx)))
 have hw0:∀k∈d0.weights Tryz.prog 32,k≤reachBytes:=fun k hk=>by
  simpa using List.all_eq_true.1 hS k (DataW.weights_mem_each (j:=0) rfl rfl k hk)
 have hw1:∀k∈d1.weights Tryz.prog 9,k≤reachBytes:=fun k hk=>by
  simpa using List.all_eq_true.1 hS k (DataW.weights_mem_each (j:=1) rfl rfl k hk)
 obtain⟨_,_,_,_,_,_,t0,rfl,ht0⟩:=aO1 (hval 0 32 v0 rfl rfl) h0 hw0
 obtain⟨s1,rfl,rfl,rfl,ws1⟩:=Go.ChangeMaps.open_string Tryz.underlying9 (hval 1 9 v1 rfl rfl) h1
 have hz1:s1.size≤140737488355328:=bj7 hw1
 refine(cE0 _ _ _ _ _ _ t0 s1 (ad6 W) (bm2 hlaid bJ5) W (aJ9 W) ht0 hz1).mono fun e W' ⟨he,hb⟩=> ?_
 subst he
 refine⟨_,rfl,_,_,_,[],_,[],hW', ?_,trodAll_mk2 (bo3 W' hb) (Go.ChangeMaps.shut_string Tryz.underlying9 ws1),rfl,hb.frame _,fun h=>by cases h⟩
 exact trodAll_mk1 (shut_bool Tryz.underlying4 _)
theorem bS8:Tryz.prog.inPlace 13=Rows.overseerFormRow.inPlace:=by kernel_rfl
theorem bc9:Tryz.prog.unfollowed 13=true:=by kernel_rfl
theorem bS9:Tryz.prog.varsNamed 13=Rows.overseerFormRow.named:=by kernel_rfl
theorem bT0:Tryz.prog.recurses 13=true:=by rw[Program.recurses_iff,bc9];rfl
theorem br5:joinedFacts Tryz.prog 13 Tryz.f13 Rows.overseerFormSpec Rows.overseerFormRow=true:=by
 unfold joinedFacts
 rw[bS8,bc9,bS9,bT0]
 first|kernel_rfl|decide+kernel
theorem overseerForm_said:Rows.OverseerFormSaid:=
 OpenClaim.holds_of_wide 13 Tryz.f13 rfl rfl rfl rfl rfl rfl rfl ⟨rfl,rfl,rfl,rfl,rfl⟩ rfl rfl rfl rfl rfl (by kernel_rfl) Tryz.func13 br5
  (of_decide_eq_true (by kernel_rfl)) (by unfold Func.isWrapper;first|(rw[if_pos (by decide+kernel)];kernel_rfl)|(rw[if_neg (by decide+kernel)];exact⟨rfl,rfl⟩))
  (fun os started H enc _=>br4 os started H enc)
end
end Go.Proofs.YtbliehinagkldaaGreatDoor
