/- The lifting of the law OverseerAsked (names and blanks made short by a program). -/
import Derived.Test.YtbliehinagkldaaGreatDoorWOverseerAsked
import Derived.SevenTiedAt
import Derived.Rings
set_option linter.all false
set_option maxRecDepth 100000
set_option maxHeartbeats 16000000
namespace Go.Proofs.YtbliehinagkldaaGreatDoor
section
open Go.ChangeShapes Go.WideShapes Go.ChangeAt Go.RowKit
theorem ee1:ownKnob Tryz.prog.godebug=none:=by kernel_rfl
theorem dZ5:laidOutB Tryz.prog=true:=by kernel_rfl
theorem dA6 (os:Os) (started:os.Started) (H:Type) (enc:TypeId × Value→H):
 ReturnsInHanded {} Tryz.checked os 9 .any (fun w args=>(Rows.overseerAskedSpec.pre enc Tryz.prog Tryz.f9 [] false w args∧laidMetH Tryz.prog aw0 w)∧sizedMet enc Tryz.prog Tryz.f9 (OpenSpec.ofChange Rows.overseerAskedSpec) false w args)
  (Rows.overseerAskedSpec.post enc Tryz.prog Tryz.f9 false true false false):=by
 refine aG2 (C:=Tryz.checked) (X:=fun w _=>laidMetH Tryz.prog aw0 w) (fun _ _ _ hh h=>h.of_heap hh) ee1 started (by kernel_rfl) Tryz.func9
  (ChangeSpec.witness_shaped (enc:=enc) (C:=Tryz.checked) (os:=os) (X:=fun w _=>laidMetH Tryz.prog aw0 w) false (bB1 os) #[.agg #[.slice none 0 0,.slice none 0 0,.slice none 0 0,.int .i64 0,.slice none 0 0,.slice none 0 0,.slice none 0 0,.int .i64 0],.int .i64 0,.int .i64 0] 8 rfl (aO5 os _) (by kernel_rfl) (by kernel_rfl) (by kernel_rfl) (bm3 os _)) ?_
 intro W base args ds gs before hval0 hW _ hsz hlaid bJ5 _
 have hval:∀(j:Nat) t v,Tryz.f9.params[j]? =some t→args[j]? =some v→Value.okWide Tryz.prog W .any base t v:=hval0
 have hW':=hW
 obtain⟨p,q,hA0,hV,rfl,_,_⟩:=hW
 have hA:DataW.TrodAll enc Tryz.prog W 0 (fun _=>true) true Tryz.f9.params.toList args.toList ds p:=hA0
 have hS:(DataW.weightsEach Tryz.prog (Tryz.f9.params.toList++[]) (ds++gs)).all (·≤reachBytes)=true:=hsz
 rw[Tryz.params9]at hA hval hS
 obtain⟨v0,vs0,d0,ds0,p0,q0,hargs,rfl,rfl,h0,r0⟩:=trodAll_cons hA
 obtain⟨v1,vs1,d1,ds1,p1,q1,rfl,rfl,rfl,h1,r1⟩:=trodAll_cons r0
 obtain⟨v2,vs2,d2,ds2,p2,q2,rfl,rfl,rfl,h2,r2⟩:=trodAll_cons r1
 obtain⟨rfl,rfl,rfl⟩:=trodAll_nil r2
 obtain rfl:args= #[v0,v1,v2]:=by cases args;simp_all
 obtain⟨rfl,rfl⟩:=trodVars_none hV
 clear hA0 hval0 hsz
 simp only[List.append_nil]at hW' hS
 have hlt:∀x∈p0++(p1++p2),x.block<W.heap.size:=fun x hx=>by simpa using hW'.lt x hx
 have bo3:∀W',Below W.heap.size W W'→DataW.Trod enc Tryz.prog W' 0 (fun b=>decide (b<W.heap.size)) true 32 v0 d0 p0:=fun W' hb=>
  Below.trod dZ5 (by kernel_rfl) (of_decide_eq_true (by kernel_rfl)) h0 hb (fun x hx=>hlt x (List.mem_append.2 (.inl hx)))
 have hw0:∀k∈d0.weights Tryz.prog 32,k≤reachBytes:=fun k hk=>by
  simpa using List.all_eq_true.1 hS k (DataW.weights_mem_each (j:=0) rfl rfl k hk)
 obtain⟨_,_,_,_,_,_,t0,rfl,ht0⟩:=aO1 (hval 0 32 v0 rfl rfl) h0 hw0
 obtain⟨z1,rfl,rfl,rfl,wz1⟩:=open_int Tryz.underlying3 (hval 1 3 v1 rfl rfl) h1
 have hz1:=ah7 wz1
 obtain⟨z2,rfl,rfl,rfl,wz2⟩:=open_int Tryz.underlying3 (hval 2 3 v2 rfl rfl) h2
 have hz2:=ah7 wz2
 refine(eJ2 _ _ _ _ _ _ t0 z1 z2 (ad6 W) (bm2 hlaid bJ5) W (aJ9 W) ht0 hz1 hz2).mono fun e W' ⟨he,hb⟩=> ?_
 subst he
 refine⟨_,rfl,_,_,_,[],_,[],hW', ?_,trodAll_cons_mk (bo3 W' hb) (trodAll_cons_mk (shut_int Tryz.underlying3 wz1) (trodAll_cons_mk (shut_int Tryz.underlying3 wz2) trodAll_mk0)),rfl,hb.frame _,fun h=>by cases h⟩
 exact trodAll_mk1 (shut_bool Tryz.underlying4 _)
theorem el0:Tryz.prog.inPlace 9=Rows.overseerAskedRow.inPlace:=by kernel_rfl
theorem cJ6:Tryz.prog.unfollowed 9=true:=by kernel_rfl
theorem el1:Tryz.prog.varsNamed 9=Rows.overseerAskedRow.named:=by kernel_rfl
theorem el2:Tryz.prog.recurses 9=true:=by rw[Program.recurses_iff,cJ6];rfl
theorem dA7:joinedFacts Tryz.prog 9 Tryz.f9 Rows.overseerAskedSpec Rows.overseerAskedRow=true:=by
 unfold joinedFacts
 rw[el0,cJ6,el1,el2]
 first|kernel_rfl|decide+kernel
theorem overseerAsked_said:Rows.OverseerAskedSaid:=
 OpenClaim.holds_of_wide 9 Tryz.f9 rfl rfl rfl rfl rfl rfl rfl ⟨rfl,rfl,rfl,rfl,rfl⟩ rfl rfl rfl rfl rfl (by kernel_rfl) Tryz.func9 dA7
  (of_decide_eq_true (by kernel_rfl)) (by unfold Func.isWrapper;first|(rw[if_pos (by decide+kernel)];kernel_rfl)|(rw[if_neg (by decide+kernel)];exact⟨rfl,rfl⟩))
  (fun os started H enc _=>dA6 os started H enc)
end
end Go.Proofs.YtbliehinagkldaaGreatDoor
