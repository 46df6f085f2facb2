/- The lifting of the law OverseerBoth (names and blanks made short by a program). -/
import Derived.Test.YtbliehinagkldaaGreatDoorWOverseerBoth
import Derived.Deep.DeepHandedRow
import Derived.SevenTiedAt
import Derived.Rings
set_option linter.all false
set_option maxRecDepth 100000
set_option maxHeartbeats 16000000
open Nat renaming le_trans → fh1
namespace Go.Proofs.YtbliehinagkldaaGreatDoor
section
open Go.ChangeShapes Go.WideShapes Go.ChangeAt Go.RowKit
theorem dc8:ownKnob Tryz.prog.godebug=none:=by kernel_rfl
theorem aL0:laidOutB Tryz.prog=true:=by kernel_rfl
theorem bN4 (os:Os):Input.okWideB Tryz.prog ((bB1 os).forCall (fun _ _=>0) ⟨#[],#[.agg #[.slice none 0 0,.slice none 0 0,.slice none 0 0,.int .i64 0,.slice none 0 0,.slice none 0 0,.slice none 0 0,.int .i64 0],.slice none 0 0,.agg #[.int .i64 0,.string ⟨#[]⟩,.int .i64 0,.string ⟨#[]⟩]],[]⟩) 7 ⟨#[],#[.agg #[.slice none 0 0,.slice none 0 0,.slice none 0 0,.int .i64 0,.slice none 0 0,.slice none 0 0,.slice none 0 0,.int .i64 0],.slice none 0 0,.agg #[.int .i64 0,.string ⟨#[]⟩,.int .i64 0,.string ⟨#[]⟩]],[]⟩=true:=by kernel_rfl
theorem dk9 (os:Os) {H:Type} (enc:TypeId × Value→H):(DataW.whole enc Tryz.prog ((bB1 os).forCall (fun _ _=>0) ⟨#[],#[.agg #[.slice none 0 0,.slice none 0 0,.slice none 0 0,.int .i64 0,.slice none 0 0,.slice none 0 0,.slice none 0 0,.int .i64 0],.slice none 0 0,.agg #[.int .i64 0,.string ⟨#[]⟩,.int .i64 0,.string ⟨#[]⟩]],[]⟩).memory Tryz.f7.params.toList Rows.overseerBothSpec.vars false #[.agg #[.slice none 0 0,.slice none 0 0,.slice none 0 0,.int .i64 0,.slice none 0 0,.slice none 0 0,.slice none 0 0,.int .i64 0],.slice none 0 0,.agg #[.int .i64 0,.string ⟨#[]⟩,.int .i64 0,.string ⟨#[]⟩]].toList 8).isSome=true:=by kernel_rfl
theorem dd0 (os:Os) {H:Type} (enc:TypeId × Value→H):(Rows.OpenSpec.upto Rows.overseerBothSpec).preRow enc Tryz.prog Tryz.f7 [] false aw0 ((bB1 os).forCall (fun _ _=>0) ⟨#[],#[.agg #[.slice none 0 0,.slice none 0 0,.slice none 0 0,.int .i64 0,.slice none 0 0,.slice none 0 0,.slice none 0 0,.int .i64 0],.slice none 0 0,.agg #[.int .i64 0,.string ⟨#[]⟩,.int .i64 0,.string ⟨#[]⟩]],[]⟩).memory #[.agg #[.slice none 0 0,.slice none 0 0,.slice none 0 0,.int .i64 0,.slice none 0 0,.slice none 0 0,.slice none 0 0,.int .i64 0],.slice none 0 0,.agg #[.int .i64 0,.string ⟨#[]⟩,.int .i64 0,.string ⟨#[]⟩]]:=
 OpenSpec.preRow_of_cond (s:=Rows.OpenSpec.upto Rows.overseerBothSpec) 8 (Option.some_get (dk9 os enc)).symm rfl (fun k hk=>by cases hk;kernel_rfl) (by kernel_rfl) (bm3 os _)
theorem cp6 (os:Os) (started:os.Started) (H:Type) (enc:TypeId × Value→H) (F:Stop.Interp):
 ReturnsInHanded {} Tryz.checked os 7 .any ((Rows.OpenSpec.upto Rows.overseerBothSpec).preRow enc Tryz.prog Tryz.f7 [] false aw0) (((Rows.OpenSpec.upto Rows.overseerBothSpec).at F).post enc Tryz.prog Tryz.f7 false true false false):=by
 refine returnsInHanded_of_row (C:=Tryz.checked) (s:=Rows.OpenSpec.upto Rows.overseerBothSpec) dc8 started (by kernel_rfl) Tryz.func7
  ⟨bB1 os,fun _ _=>0,⟨#[],#[.agg #[.slice none 0 0,.slice none 0 0,.slice none 0 0,.int .i64 0,.slice none 0 0,.slice none 0 0,.slice none 0 0,.int .i64 0],.slice none 0 0,.agg #[.int .i64 0,.string ⟨#[]⟩,.int .i64 0,.string ⟨#[]⟩]],[]⟩,rfl,aO5 os _,(Input.okWide_of_okWideB (base:=0) (bN4 os)).1,(Input.okWide_of_okWideB (bN4 os)).2,dd0 os enc,by
   simp only[Assume.holds]
   exact⟨by simp,by simp,fun _=>Modest.zero,by simp,by simp⟩⟩ ?_
 intro W base args ds gs before hval0 hW _ hcond hsz hlaid bJ5 _
 have hk0:Rows.uptoSmall H (ds++gs)=true:=hcond _ rfl
 have hk:Rows.uptoBulkAll (ds++gs)≤1048576:=of_decide_eq_true hk0
 clear hcond hk0
 have hval:∀(j:Nat) t v,Tryz.f7.params[j]? =some t→args[j]? =some v→Value.okWide Tryz.prog W .any base t v:=hval0
 have hW':=hW
 obtain⟨p,q,hA0,hV,rfl,_,_⟩:=hW
 have hA:DataW.TrodAll enc Tryz.prog W 0 (fun _=>true) true Tryz.f7.params.toList args.toList ds p:=hA0
 have hS:(DataW.weightsEach Tryz.prog (Tryz.f7.params.toList++[]) (ds++gs)).all (·≤reachBytes)=true:=hsz
 rw[Tryz.params7]at hA hval hS
 obtain⟨v0,vs0,d0,ds0,p0,q0,hargs,rfl,rfl,h0,r0⟩:=trodAll_cons hA
 obtain⟨v1,vs1,d1,ds1,p1,q1,rfl,rfl,rfl,h1,r1⟩:=trodAll_cons r0
 obtain⟨v2,vs2,d2,ds2,p2,q2,rfl,rfl,rfl,h2,r2⟩:=trodAll_cons r1
 obtain⟨rfl,rfl,rfl⟩:=trodAll_nil r2
 obtain rfl:args= #[v0,v1,v2]:=by cases args;simp_all
 obtain⟨rfl,rfl⟩:=trodVars_none hV
 clear hA0 hval0 hsz
 simp only[List.append_nil]at hW' hS
 have hlt:∀x∈p0++(p1++p2),x.block<W.heap.size:=fun x hx=>by simpa using hW'.lt x hx
 have bo3:∀W',Below W.heap.size W W'→DataW.Trod enc Tryz.prog W' 0 (fun b=>decide (b<W.heap.size)) true 32 v0 d0 p0:=fun W' hb=>
  Below.trod aL0 (by kernel_rfl) (of_decide_eq_true (by kernel_rfl)) h0 hb (fun x hx=>hlt x (List.mem_append.2 (.inl hx)))
 have hw0:∀k∈d0.weights Tryz.prog 32,k≤reachBytes:=fun k hk=>by
  simpa using List.all_eq_true.1 hS k (DataW.weights_mem_each (j:=0) rfl rfl k hk)
 have cW7:∀W',Below W.heap.size W W'→DataW.Trod enc Tryz.prog W' 0 (fun b=>decide (b<W.heap.size)) true 33 v1 d1 p1:=fun W' hb=>
  Below.trod aL0 (by kernel_rfl) (of_decide_eq_true (by kernel_rfl)) h1 hb (fun x hx=>hlt x (List.mem_append.2 (.inr (List.mem_append.2 (.inl hx)))))
 have hw1:∀k∈d1.weights Tryz.prog 33,k≤reachBytes:=fun k hk=>by
  simpa using List.all_eq_true.1 hS k (DataW.weights_mem_each (j:=1) rfl rfl k hk)
 have ei0:∀W',Below W.heap.size W W'→DataW.Trod enc Tryz.prog W' 0 (fun b=>decide (b<W.heap.size)) true 52 v2 d2 p2:=fun W' hb=>
  Below.trod aL0 (by kernel_rfl) (of_decide_eq_true (by kernel_rfl)) h2 hb (fun x hx=>hlt x (List.mem_append.2 (.inr (List.mem_append.2 (.inr hx)))))
 have hw2:∀k∈d2.weights Tryz.prog 52,k≤reachBytes:=fun k hk=>by
  simpa using List.all_eq_true.1 hS k (DataW.weights_mem_each (j:=2) rfl rfl k hk)
 obtain⟨_,_,_,_,_,_,t0,rfl,ht0⟩:=aO1 (hval 0 32 v0 rfl rfl) h0 hw0
 obtain⟨a1,l1,c1,rfl⟩:=okWide_slice Tryz.underlying33 (hval 1 33 v1 rfl rfl)
 obtain⟨n1,h1'⟩:=h1
 obtain⟨xs1,hx1⟩:=bo8 (by simpa [Value.cells]using h1') hw1
 have hb1:Rows.uptoBulk d1≤1048576:=fh1 (ce6 (by simp)) hk
 obtain⟨hn1',hz1'⟩:=de1 (by simpa [Value.cells]using h1') hx1
 obtain⟨q2,r2,n2,m2,rfl,hq2,hr2,hn2,hm2⟩:=ec1 (hval 2 52 v2 rfl rfl) h2 hw2
 refine(dR3 _ _ _ _ _ _ _ t0 xs1 q2 r2 n2 m2 (ad6 W) (bm2 hlaid bJ5) W (aJ9 W) ht0 hx1 hq2 hr2 hn2 hm2 (fh1 hn1' (fh1 hb1 (by decide))) (fun s hs=>fh1 (hz1' s hs) (fh1 hb1 (by decide)))).mono fun e W' ⟨he,hb⟩=> ?_
 subst he
 refine⟨_,rfl,_,_,_,[],_,[],hW', ?_,trodAll_cons_mk (bo3 W' hb) (trodAll_cons_mk (cW7 W' hb) (trodAll_cons_mk (ei0 W' hb) trodAll_mk0)),rfl,hb.frame _,fun h=>by cases h⟩
 exact trodAll_mk1 (shut_bool Tryz.underlying4 _)
theorem dl2:Tryz.prog.inPlace 7=Rows.overseerBothUptoRow.inPlace:=by kernel_rfl
theorem bN9:Tryz.prog.unfollowed 7=true:=by kernel_rfl
theorem dl3:Tryz.prog.varsNamed 7=Rows.overseerBothUptoRow.named:=by kernel_rfl
theorem dl4:Tryz.prog.recurses 7=true:=by rw[Program.recurses_iff,bN9];rfl
theorem cp7:joinedFacts Tryz.prog 7 Tryz.f7 (Rows.OpenSpec.upto Rows.overseerBothSpec).bare Rows.overseerBothUptoRow=true:=by
 unfold joinedFacts
 rw[dl2,bN9,dl3,dl4]
 first|kernel_rfl|decide+kernel
theorem overseerBoth_said:Rows.OverseerBothUptoSaid:=
 OpenClaim.holds_of_cond 7 Tryz.f7 rfl rfl rfl rfl rfl rfl rfl ⟨rfl,rfl,rfl,rfl,rfl⟩ rfl rfl rfl rfl rfl (by kernel_rfl) Tryz.func7 cp7
  (of_decide_eq_true (by kernel_rfl)) (by unfold Func.isWrapper;first|(rw[if_pos (by decide+kernel)];kernel_rfl)|(rw[if_neg (by decide+kernel)];exact⟨rfl,rfl⟩))
  (fun os started H enc _ F=>by rw[OpenClaim.pre_eq_preRow];exact cp6 os started H enc F)
end
end Go.Proofs.YtbliehinagkldaaGreatDoor
