/- Lemmas and the walk of the law OverseerAsked (names and blanks made short by a program). -/
import Derived.Test.YtbliehinagkldaaGreatDoorG19
set_option linter.all false
set_option maxRecDepth 100000
set_option maxHeartbeats 16000000
open Go.Lib renaming hid → fe6
open List renaming setIfInBounds_toArray → fe7, getElem?_cons_zero → fe8, getElem?_cons_succ → fe9, getElem?_toArray → ff0, set_cons_zero → ff1, set_cons_succ → ff2, getD_eq_getElem?_getD → ff3, drop_succ_cons → ff5, drop_zero → ff6, length_cons → ff8, nil_append → ff9, getElem?_eq_getElem → fg0, length_nil → fg1, cons_append → fg2, push_toArray → fg3, length_map → fg5
open Array renaming replicate_zero → fg8, replicate_succ → fg9
open Nat renaming le_refl → fh0, le_trans → fh1, add_zero → fh2, zero_le → fh3, reduceAdd → fh6, reduceSub → fh7
open Bool renaming and_eq_true → fh9
namespace Go.Proofs.YtbliehinagkldaaGreatDoor
section
open Go.RowKit
section
variable {α:Type} [Enc α] {P:Program} {H H0:j5} {w w0:World} {t e:TypeId} {v:Value} {xs ys:List α} {ops:Array Oper} {o:Oper} {a:Act} {Q:Exit→Act→World→Prop} {K:Act→World→Prop} {E:Prop} {rest:List Oper}
theorem eX7 (T:af2 P t e α) (hgd:o.guard=none) (s y:Operand) (ho:o.op= .call {callee:= .builtin .append,args:= #[s,y],argTypes:= #[t,t]}) (hX:Ext w0 H0 w H)
 (hs:a.eval s=v) (hown:Own H w0.heap.size w e v xs) {x:α} {cs:List Value} {g c:Nat} (hy:a.eval y= .slice (some ⟨g,0,none⟩) 1 c) (hx:Enc.rep H x cs) (hcs:∀(j:Nat) (u:Value),cs[j]? =some u→w.cell? ⟨g,j,none⟩=some u) (hlen:(xs.length+1)*Enc.M4 α≤140737488355328) (h63:xs.length+1≤9223372036854775807)
 (h:∀v' w',Own H w0.heap.size w' e v' (xs++[x])→Ext w0 H0 w' H→j4 H w'→w.grownBy w' v.ownBlock→K (a.put o.dst v') w'):if Region.wanted o (yielded ops a.tmps)=true then Oper.wp P o a w K Q else E:=
 aY8 T hgd s y ho hs hown hy hx hcs hX.holds hlen h63 hX.below.size fun v' w' h1 h2 h3 _=>h v' w' h1 (hX.grown h2 (fun k hk=>(hown.lt k hk).1) (fun k hk=>hown.free k hk)) h3 h2
end
end
section
open Go.RowKit
section
variable (P:Program) (md:Region.Mode) (ops:Array Oper) (Q:Exit→Act→World→Prop) (Le:World→World→Prop) (n g:Nat) (tl:List Oper)
def hdM:Nat→Array Bool→Act→World→Prop
 |0,listed,a,w=>∀w',Le w w'→Region.seqB md ops g n listed=true∧wpList P ops Q tl a w'
 |f+1,listed,a,w=>∀w',Le w w'→Region.ready md ops listed≠[]∧∀i∈Region.ready md ops listed,i<n∧wpOp P ops Q i (fun a2 w2=>Le w' w2∧hdM f (listed.setIfInBounds i true) a2 w2) a w'
def hdN (f:Nat) (listed:Array Bool) (a:Act) (w:World):Prop:=er3 md ops n listed→hdM P md ops Q Le n g tl f listed a w
def aL7 (o:Oper) (v:Value) (a:Act) (w:World):Prop:=
 (Region.wanted o (yielded ops a.tmps)=true∧∀w',Le w w'→(execOp a.eval o).run P w'= .ok (.value v) w'∨∃f args,(execOp a.eval o).run P w'= .ok (.enter f args) w'∧Calls P f args w' fun e w2=>e= .returned v∧Le w' w2)∨
 (Region.wanted o (yielded ops a.tmps)=false∧v=undef)
end
section
variable {P:Program} {md:Region.Mode} {ops:Array Oper} {Q:Exit→Act→World→Prop} {Le:World→World→Prop} {n g:Nat} {tl:List Oper}
theorem aL7.of_same {o:Oper} {v:Value} {a a':Act} {w:World} (hy:aL7 P ops Le o v a w) (he:execOp a'.eval o=execOp a.eval o)
 (hw:Region.wanted o (yielded ops a'.tmps)=Region.wanted o (yielded ops a.tmps)):aL7 P ops Le o v a' w:=by
 unfold aL7 at*
 rw[he,hw]
 exact hy
theorem aL7.later (ht:∀x y z,Le x y→Le y z→Le x z) {o:Oper} {v:Value} {a:Act} {w w1:World} (hy:aL7 P ops Le o v a w) (h:Le w w1):aL7 P ops Le o v a w1:=
 hy.imp (fun⟨hw,hv⟩=>⟨hw,fun w' h'=>hv w' (ht _ _ _ h h')⟩) id
theorem aL7.wpOp (hr:∀x,Le x x) {i:Nat} {o:Oper} {v:Value} {a:Act} {w w':World} (hi:ops[i]? =some o) (hy:aL7 P ops Le o v a w) (hl:Le w w')
 {K:Act→World→Prop} (h:∀w2,Le w' w2→K (a.put o.dst v) w2):Go.wpOp P ops Q i K a w':=by
 unfold Go.wpOp
 simp only[hi]
 rcases hy with⟨hw,hv⟩|⟨hw,rfl⟩
 ·simp only[hw,if_true,Oper.wp]
  refine .inl ?_
  rcases hv w' hl with e|⟨f,args,e,hc⟩
  ·rw[e];exact h _ (hr _)
  ·rw[e]
   simp only[Oper.upon]
   refine Calls.mono hc fun e w2 ⟨he,hle⟩=> ?_
   subst he
   exact h _ hle
 ·simp only[hw,Bool.false_eq_true,if_false];exact h _ (hr _)
theorem eZ0 {j:Nat} {o:Oper} (hj:ops[j]? =some o) {K:Act→World→Prop} {a:Act} {w:World} (h:wpOp P ops Q j K a w):
 wpOp P ops Q j (fun a2 w2=>K a2 w2∧∃u ds,a2={a.put o.dst u with defers:=ds}) a w:=by
 unfold wpOp at*
 simp only[hj]at*
 split
 ·rename_i hw
  simp only[hw,if_true]at h
  rcases h with h|h
  ·refine .inl ?_
   unfold Oper.wp at*
   generalize(execOp a.eval o).run P w=r at*
   cases r with
   |ok nx w'=>
    cases nx<;>simp only[Oper.upon]at h ⊢
    case value u=>exact⟨h,u,_,rfl⟩
    case skip=>exact⟨h,undef,_,rfl⟩
    case defer d=>exact⟨h,undef,d::a.defers,by rw[←Act.put_defers];cases o.dst<;>rfl⟩
    case enter f args=>
     refine Calls.mono h fun e w2 he=> ?_
     cases e with
     |returned u=>exact⟨he,u,_,rfl⟩
     |panicked c=>exact he
     |outgrown=>exact he
    case row row args=>exact Rows.mono h fun u w2 he=>⟨he,u,_,rfl⟩
   |halt x w'=>cases x<;>simp only[Oper.upon]at h ⊢<;>exact h
  ·exact .inr h
 ·rename_i hw
  simp only[hw,Bool.false_eq_true,if_false]at h
  exact⟨h,undef,_,rfl⟩
theorem eZ1 (hrf:∀x,Le x x) (ht:∀x y z,Le x y→Le y z→Le x z) {i:Nat} {oi:Oper} {v:Value} (hi:ops[i]? =some oi) (hsel:∀(j:Nat) (o:Oper) cs b,ops[j]? =some o→o.op≠ .select cs b)
 (hQ:∀c a w,Q (.panic c) (a.put oi.dst v) w→Q (.panic c) a w) (hs:Region.sinkB md ops n=true) (hc:Region.chainB md ops n=true) (hn:n<ops.size) (hin:i<n):
 ∀(f:Nat) (listed:Array Bool) (a:Act) (w:World),HeadInv md ops n listed→
  (∀j oj,ops[j]? =some oj→j≠i→listed.getD j true=false→(∀e∈oj.after,Region.binds md e=true→e.on≠i)→oi.apart ops oj=true)→
  i∈Region.ready md ops listed→aL7 P ops Le oi v a w→
  hdM P md ops Q Le n g tl f (listed.setIfInBounds i true) (a.put oi.dst v) w→hdM P md ops Q Le n g tl (f+1) listed a w:=by
 intro f
 induction f with
 |zero=>
  intro listed a w inv _ hr hy H w' hw'
  have hun:=(mem_ready.1 hr).1
  refine⟨fun h=>(by rw[h]at hr;cases hr),fun j hj=> ?_⟩
  have hjn:j<n:=Nat.lt_of_not_le fun h=>tail_waits hs hc hn inv _ i rfl hin hun j h hj
  refine⟨hjn, ?_⟩
  by_cases hji:j=i
  ·subst hji;exact hy.wpOp hrf hi hw' (fun w2 h2=>⟨h2,fun w3 h3=>H w3 (ht _ _ _ hw' (ht _ _ _ h2 h3))⟩)
  ·have:=seqB_ready (H w' hw').1 j (ready_mono hj hji);omega
 |succ f ih=>
  intro listed a w inv hfree hr hy H w' hw'
  have hun:=(mem_ready.1 hr).1
  refine⟨fun h=>(by rw[h]at hr;cases hr),fun j hj=> ?_⟩
  have hjn:j<n:=Nat.lt_of_not_le fun h=>tail_waits hs hc hn inv _ i rfl hin hun j h hj
  refine⟨hjn, ?_⟩
  by_cases hji:j=i
  ·subst hji
   exact hy.wpOp hrf hi hw' (fun w2 h2=>⟨h2,fun w3 h3=>H w3 (ht _ _ _ hw' (ht _ _ _ h2 h3))⟩)
  ·have h1:=((H w' hw').2 j (ready_mono hj hji)).2
   obtain⟨hjun,oj,hoj,hall⟩:=mem_ready.1 hj
   have hnot:∀e∈oj.after,Region.binds md e=true→e.on≠i:=fun e he hb heq=>by
    have:=hall e he hb
    rw[heq,getD_both hun]at this;cases this
   have hap:=hfree j oj hoj hji hjun hnot
   have hy0:YieldsIf P ops (fun _=>False) oi v a:=hy.imp (fun⟨h,_⟩=>⟨h,fun _ h=>h.elim⟩) id
   have h2:=eZ0 hoj (wpOp_putIf hoj hap (fun cs b=>hsel i oi cs b hi) (fun cs b=>hsel j oj cs b hoj) hQ hy0 h1)
   refine wpOp_mono (fun a2 w2 h3=> ?_) h2
   obtain⟨⟨_,hle,hM⟩,u,ds,ha2⟩:=h3
   have h3':=(Oper.apart_spec hap).2.2
   have hya:aL7 P ops Le oi v a2 w2:=by
    refine(hy.of_same ?_ ?_).later ht (ht _ _ _ hw' hle)
    ·subst ha2;exact execOp_put oi (fun cs b=>hsel i oi cs b hi) a oj.dst u h3'
    ·subst ha2;exact wanted_put oi a oj.dst u h3'
   refine⟨hle,ih (listed.setIfInBounds j true) a2 w2 (inv.set hj hjn) (fun q oq hq hqi cl0 hno=>hfree q oq hq hqi ?_ hno) (ready_mono hr (Ne.symm hji)) hya ?_⟩
   ·by_cases hjq:j=q
    ·subst hjq;exact hjun
    ·rw[getD_set_ne true hjq]at cl0;exact cl0
   ·rw[Array.setIfInBounds_comm _ _ hji];exact hM
abbrev LeB (w w':World):Prop:=Below w.heap.size w w'
theorem dz8 (w:World):LeB w w:=Below.refl _ _
theorem eZ2 (x y z:World) (h:LeB x y) (k:LeB y z):LeB x z:=h.trans (k.mono h.size)
def bb9 (P:Program) (md:Region.Mode) (ops:Array Oper) (Q:Exit→Act→World→Prop) (n g:Nat) (tl:List Oper) (f:Nat) (listed:Array Bool) (a:Act) (w:World) (rs:List Nat):Prop:=
 ∀i∈rs,∀w',LeB w w'→wpOp P ops Q i (fun a2 w2=>LeB w' w2∧hdN P md ops Q LeB n g tl f (listed.setIfInBounds i true) a2 w2) a w'
theorem eG9 {i:Nat} {oi:Oper} {v:Value} {f:Nat} {listed:Array Bool} {a:Act} {w:World} (hi:ops[i]? =some oi) (hb:(Region.noSelect ops&&Region.free md ops listed i&&((Region.ready md ops listed).contains i&&decide (i<n)))=true)
 (hQ:∀c a w,Q (.panic c) (a.put oi.dst v) w→Q (.panic c) a w) (hy:aL7 P ops LeB oi v a w)
 (h:hdN P md ops Q LeB n g tl f (listed.setIfInBounds i true) (a.put oi.dst v) w):hdN P md ops Q LeB n g tl (f+1) listed a w:=fun I=>by
 rw[fh9,fh9]at hb
 have hr:=hb.2
 simp only[fh9,decide_eq_true_eq]at hr
 have hr':i∈Region.ready md ops listed:=by simpa using hr.1
 exact eZ1 dz8 eZ2 hi (Region.noSelect_spec hb.1.1) hQ I.s I.c I.l hr.2 f listed a w I.i (Region.free_spec hi hb.1.2) hr' hy (h ⟨I.i.set hr' hr.2,I.s,I.c,I.l⟩)
theorem an7 {H:j5} (i:Nat) {oi:Oper} {v:Value} {f:Nat} {listed:Array Bool} {a:Act} {w:World} (hH:j4 H w) (h:hdN P md ops Q LeB n g tl f (listed.setIfInBounds i true) (a.put oi.dst v) w)
 (hi:ops[i]? =some oi:=by simp only[List.getElem?_toArray,List.getElem?_cons_succ,List.getElem?_cons_zero]<;>rfl) (hb:(Region.noSelect ops&&Region.free md ops listed i&&((Region.ready md ops listed).contains i&&decide (i<n)))=true:=by kernel_rfl)
 (hQ:∀c a w,Q (.panic c) (a.put oi.dst v) w→Q (.panic c) a w:=by exact fun _ _ _ h=>h) (hg:Region.wanted oi (yielded ops a.tmps)=true:=by kernel_rfl) (hy:∀w',j4 H w'→(execOp a.eval oi).run P w'= .ok (.value v) w':=by intro w hSw;go_simp;(try(with_reducible rfl))):
 hdN P md ops Q LeB n g tl (f+1) listed a w:=eG9 hi hb hQ (.inl ⟨hg,fun w' hw'=> .inl (hy w' (hH.below hw'))⟩) h
theorem av7 (i:Nat) {oi:Oper} {v:Value} {fn:FuncId} {args:Array Value} {f:Nat} {listed:Array Bool} {a:Act} {w:World} (hc:∀w',LeB w w'→Calls P fn args w' (I1 w' v)) (h:hdN P md ops Q LeB n g tl f (listed.setIfInBounds i true) (a.put oi.dst v) w)
 (hi:ops[i]? =some oi:=by simp only[List.getElem?_toArray,List.getElem?_cons_succ,List.getElem?_cons_zero]<;>rfl) (hb:(Region.noSelect ops&&Region.free md ops listed i&&((Region.ready md ops listed).contains i&&decide (i<n)))=true:=by kernel_rfl)
 (hQ:∀c a w,Q (.panic c) (a.put oi.dst v) w→Q (.panic c) a w:=by exact fun _ _ _ h=>h) (hg:Region.wanted oi (yielded ops a.tmps)=true:=by kernel_rfl) (hr:∀w',(execOp a.eval oi).run P w'= .ok (.enter fn args) w':=by intro w;go_simp;(try(with_reducible rfl))):
 hdN P md ops Q LeB n g tl (f+1) listed a w:=eG9 hi hb hQ (.inl ⟨hg,fun w' hw'=> .inr ⟨fn,args,hr w',hc w' hw'⟩⟩) h
theorem bb9.nil {f:Nat} {listed:Array Bool} {a:Act} {w:World}:bb9 P md ops Q n g tl f listed a w []:=fun _ h=>by cases h
theorem bb9.cons {f:Nat} {listed:Array Bool} {a:Act} {w:World} {i:Nat} {o:Oper} {rs:List Nat} (ho:ops[i]? =some o)
 (h:∀w',LeB w w'→∀K':Act→World→Prop,Shut (∀a2 w2,LeB w' w2→hdN P md ops Q LeB n g tl f (listed.setIfInBounds i true) a2 w2→K' a2 w2)→if Region.wanted o (yielded ops a.tmps)=true then Oper.wp P o a w' K' Q else K' (a.put o.dst undef) w')
 (hs:bb9 P md ops Q n g tl f listed a w rs):bb9 P md ops Q n g tl f listed a w (i::rs):=fun j hj=>by
 rcases List.mem_cons.1 hj with rfl|hj
 ·exact fun w' hw'=>wpOp_step ho (fun K' hK=>h w' hw' K' (fun a2 w2 hl hN=>hK a2 w2 ⟨hl,hN⟩))
 ·exact hs j hj
theorem eZ4 {rs:List Nat} {f:Nat} {listed:Array Bool} {a:Act} {w:World} (hr:Region.ready md ops listed=rs) (hne:(!rs.isEmpty&&rs.all (fun i=>decide (i<n)))=true)
 (h:bb9 P md ops Q n g tl f listed a w rs):hdN P md ops Q LeB n g tl (f+1) listed a w:=fun I w' hw'=>by
 simp only[fh9]at hne
 refine⟨fun h0=>by rw[hr]at h0;rw[h0]at hne;simp at hne,fun i hi=> ?_⟩
 have hi2:=hi
 rw[hr]at hi2
 have hin:i<n:=of_decide_eq_true (List.all_eq_true.1 hne.2 i hi2)
 exact⟨hin,wpOp_mono (fun a2 w2 h2=>⟨h2.1,h2.2 ⟨I.i.set hi hin,I.s,I.c,I.l⟩⟩) (h i hi2 w' hw')⟩
theorem dz9 (i:Nat) {o:Oper} (rs:List Nat) {f:Nat} {listed:Array Bool} {a:Act} {w:World}
 (h:∀w',LeB w w'→∀K':Act→World→Prop,Shut (∀a2 w2,LeB w' w2→hdN P md ops Q LeB n g tl f (listed.setIfInBounds i true) a2 w2→K' a2 w2)→if Region.wanted o (yielded ops a.tmps)=true then Oper.wp P o a w' K' Q else K' (a.put o.dst undef) w')
 (hs:bb9 P md ops Q n g tl f listed a w rs) (hr:Region.ready md ops listed=i::rs:=by kernel_rfl) (hne:(!(i::rs).isEmpty&&(i::rs).all (fun i=>decide (i<n)))=true:=by kernel_rfl) (ho:ops[i]? =some o:=by simp only[List.getElem?_toArray,List.getElem?_cons_succ,List.getElem?_cons_zero]<;>rfl):
 hdN P md ops Q LeB n g tl (f+1) listed a w:=eZ4 hr hne (bb9.cons ho h hs)
theorem ek2 {listed:Array Bool} {a:Act} {w:World} (h:∀w',LeB w w'→wpList P ops Q tl a w') (hr:Region.seqB md ops g n listed=true:=by kernel_rfl):hdN P md ops Q LeB n g tl 0 listed a w:=fun _ w' hw'=>⟨hr,h w' hw'⟩
theorem dM3 (hl:∀listed a w,Region.seqB md ops g n listed=true→wpList P ops Q tl a w→wpAny P md ops Q g listed a w):
 ∀(f:Nat) (listed:Array Bool) (a:Act) (w:World),hdM P md ops Q LeB n g tl f listed a w→wpAny P md ops Q (f+g) listed a w
 |0,listed,a,w,h=>by rw[Nat.zero_add];exact hl _ _ _ (h w (dz8 w)).1 (h w (dz8 w)).2
 |f+1,listed,a,w,h=>by
  rw[show f+1+g=(f+g)+1 by omega]
  have h':=h w (dz8 w)
  exact⟨fun h0=>absurd h0 h'.1,fun i hi=>wpOp_mono (fun a2 w2 h2=>dM3 hl f _ a2 w2 h2.2) (h'.2 i hi).2⟩
theorem eE8 {id:Nat} {a:Act} {w:World} {l:List Oper} (n:Nat) (hm:P.follows .mixedOrders=true) (hB:(decide (n<l.length)&&Region.sinkB .any l.toArray n&&Region.chainB .any l.toArray n)=true)
 (h:hdN P .any l.toArray Q LeB n (l.length-n) (l.drop n) n (Array.replicate l.length false) a w.drew):(Code.region id l.toArray true).wp P Q a w:=by
 simp only[fh9,decide_eq_true_eq]at hB
 obtain⟨⟨hn,hs⟩,hc⟩:=hB
 have inv0:HeadInv .any l.toArray n (Array.replicate l.length false):=
  ⟨by simp,fun j oj _ hl=>(by rw[getD_replicate_false]at hl;cases hl),fun t _ ht=>getD_in (by simpa using ht) (getD_replicate_false _ _)⟩
 refine wp_region_any hm ?_
 have:=dM3 (md:= .any) (ops:=l.toArray) (Q:=Q) (P:=P) (n:=n) (g:=l.length-n) (tl:=l.drop n) (fun listed a' w' hq hw=>by
  have h2:=wpAny_of_seq (md:= .any) (Q':=Q) (l.drop n) n listed a' w' (fun j=>by simp[List.getElem?_drop]) (by rw[List.length_drop];exact hq) hw
  rwa [List.length_drop]at h2) n _ a w.drew (h ⟨inv0,hs,hc,by simpa using hn⟩)
 rw[show n+(l.length-n)=l.toArray.size by simp;omega]at this
 simpa using this
end
end
section
open Go.RowKit Go.ChangeShapes Go.WideShapes Go.Deep
theorem aJ9 (w:World):j4 (ad6 w) w:=⟨fun _ _ e=>e⟩
end
section
theorem ay0 (a b:ByteArray):C9 (J8 (C8 a++32::C8 b))=C9 a++C9 b:=by
 unfold C9
 rw[show C8 (J8 (C8 a++32::C8 b))=C8 a++32::C8 b from rfl,bi7,List.map_append]
theorem ap5 {a:ByteArray} (h:∀b∈C8 a,b≠32):C9 a=[a]:=by
 unfold C9
 rw[aF1 h]
 rfl
theorem ca0 (a:ByteArray):C9 a≠[]:=fun e=>aB3 (C8 a) (by unfold C9 at e;exact List.map_eq_nil_iff.1 e)
theorem da9 (n:Int):∀b∈Lib.itoa n,b≠32:=fun b hb e=>by
 have key:∀u,b∈Lib.decDigits u→False:=fun u hu=>by
  have:=ah8.1 (List.all_eq_true.1 (aU5 u) b hu)
  rw[e]at this
  have h32:(32:UInt8).toNat=32:=rfl
  omega
 unfold Lib.itoa at hb
 split at hb
 ·rcases List.mem_cons.1 hb with h|h
  ·rw[e]at h;cases h
  ·exact key _ h
 ·exact key _ hb
end
section
theorem do1 (s:ByteArray):C9 s≠[]:=ca0 s
end
section
theorem db2 (u:Nat):ar2 (Lib.decDigits u)=Lib.decDigits u:=by
 have h:=cm2 u
 unfold ar2
 split
 ·rename_i r hr;rw[hr]at h;exact absurd rfl h
 ·rfl
theorem db3 {n:Int} (h1: -1000000<n) (h2:n<1000000):O5 (G6 n)=some n:=by
 refine cm3 (w:=G6 n) (v:=n) rfl ?_
 show(ar2 (Lib.itoa n)).length≤6
 unfold Lib.itoa
 split
 ·exact aI6 _ 5 (by omega)
 ·rw[db2];exact aI6 _ 5 (by omega)
theorem db4 {l:List F7} {x:F7} (hk:x.kind≠1) (he:(x.kind=5∨x.kind=6)→at5 l x.of=false):aa4 (l++[x])=aa4 l++[E9]:=by
 rw[aD5]
 unfold ak4
 rw[if_neg hk,if_neg]
 rintro⟨h1,h2⟩
 rw[he h1]at h2;cases h2
theorem dH2 {l:List F7} {x:F7} (hk:x.kind=1):aa4 (l++[x])=aa4 l++[x]:=by
 rw[aD5]
 unfold ak4
 rw[if_pos hk]
def cm6 (x:F7):F7:=if x.kind=1 then x else E9
theorem aI7:∀l:List F7,(∀x∈l,x.kind≠5∧x.kind≠6)→aa4 l=l.map cm6:=ad1 (fun _=>rfl) fun l x ih h=>by
 have hx:=h x (by simp)
 rw[List.map_append,List.map_singleton,←ih fun y hy=>h y (by simp[hy])]
 by_cases hk:x.kind=1
 ·rw[dH2 hk];unfold cm6;rw[if_pos hk]
 ·rw[db4 hk (by omega)];unfold cm6;rw[if_neg hk]
end
section
def atB (n:Int) (q:ByteArray):ByteArray:=J8 ([97,116,32]++C8 (G6 n)++[32]++C8 q)
theorem do7 (n:Int) (q:ByteArray):C9 (atB n q)=wAt::G6 n::C9 q:=by
 have h:atB n q=J8 (C8 wAt++32::C8 (J8 (C8 (G6 n)++32::C8 q))):=by
  unfold atB
  show J8 _=J8 ([97,116]++32::(C8 (G6 n)++32::C8 q))
  simp
 rw[h,ay0,ay0,ap5 (a:=wAt) (by decide),ap5 (a:=G6 n) (da9 n)]
 rfl
theorem ca4:∀{p:List ByteArray} {ns:List Int},T9 p=some ns→ns.length=p.length
 |[],ns,h=>by cases h;rfl
 |w::p,ns,h=>by
  unfold T9 at h
  split at h
  ·rename_i n r h1 h2
   cases h
   rw[ff8,ff8,ca4 h2]
  ·cases h
theorem dH5 (n:Int) (q:List ByteArray):A7 (wAt::G6 n::q)=E9:=by
 unfold A7
 split
 ·rfl
 ·rename_i ns e
  have hl:=ca4 e
  have e1:U3 wAt= -1:=by decide
  have e2:Y3 wAt= -1:=by decide
  rw[List.headD_cons,e1,e2,if_neg (by omega),if_neg (by omega)]
theorem dH6 {n:Int} {q:ByteArray} (h1: -1000000<n) (h2:n<1000000) (hq:(A8 q).kind=2):A8 (atB n q)={A8 q with kind:=3,of:=n}:=by
 have e1:A8 q=A7 (C9 q):=bH4 (.inr hq)
 rw[e1]at hq ⊢
 unfold A8
 rw[do7]
 have h0:=dH5 n (C9 q)
 unfold ac8
 rw[if_neg (by rw[h0];decide)]
 simp only[db3 h1 h2]
 rw[if_neg (by decide),if_pos trivial,if_pos ⟨do1 q,hq⟩]
end
section
theorem eH0 {t:D5} {l:List ByteArray} (v:F6 t=true) (hl:l.length≤24) (h:∀s∈l,(A8 s).kind=2∨((A8 s).kind=3∧0≤(A8 s).of∧∃k,At l k s∧(A8 s).of≤(k:Int))):V5 t l=t∧O0 t l=[]:=by
 have hn:aa4 (l.map A8)=List.replicate l.length E9:=by
  rw[aI7 _ fun x hx=>by
   obtain⟨s,hs,rfl⟩:=List.mem_map.1 hx
   have:=h s hs;omega]
  rw[List.eq_replicate_iff]
  refine⟨by simp,fun x hx=> ?_⟩
  obtain⟨y,hy,rfl⟩:=List.mem_map.1 hx
  obtain⟨s,hs,rfl⟩:=List.mem_map.1 hy
  unfold cm6
  rw[if_neg]
  have:=h s hs;omega
 have hr:∀k,Z5 t (List.replicate k E9)=t∧aZ9 t (List.replicate k E9)=[]:=fun k=>by
  induction k with
  |zero=>exact⟨rfl,rfl⟩
  |succ k ih=>rw[List.replicate_succ];exact ih
 rw[aK0 v hl,aS9 v hl,hn]
 exact hr _
theorem eq2 {t:D5}:∀l:List ByteArray,(∀k s,At l k s→(A8 s).kind=2∨((A8 s).kind=3∧0≤(A8 s).of∧(A8 s).of≤(k:Int)))→(M6 t l).ans=l.map fun s=>U6 t (A8 s).word (A8 s).nums:=ad1 (fun _=>rfl) fun l s ih h=>by
 have hl:∀k x,At l k x→(A8 x).kind=2∨((A8 x).kind=3∧0≤(A8 x).of∧(A8 x).of≤(k:Int)):=fun k x hx=>h k x (by
  unfold At at*
  rw[List.getElem?_append_left (List.getElem?_eq_some_iff.1 hx).1];exact hx)
 have hs:=h l.length s (by unfold At;rw[List.getElem?_append_right (fh0 _),Nat.sub_self];rfl)
 have hn:aa4 (l.map A8)=List.replicate l.length E9:=by
  have hk:∀x∈l.map A8,x.kind=2∨x.kind=3:=fun x hx=>by
   obtain⟨u,hu,rfl⟩:=List.mem_map.1 hx
   obtain⟨k,hk,e⟩:=List.getElem_of_mem hu
   have:=hl k u (by unfold At;rw[fg0 hk,e])
   omega
  rw[aI7 _ fun x hx=>by have:=hk x hx;omega]
  rw[List.eq_replicate_iff]
  refine⟨by simp,fun x hx=> ?_⟩
  obtain⟨y,hy,rfl⟩:=List.mem_map.1 hx
  have:=hk y hy
  unfold cm6
  rw[if_neg (by omega)]
 have hr:∀k,Z5 t (List.replicate k E9)=t:=fun k=>by
  induction k with
  |zero=>rfl
  |succ k ih=>rw[List.replicate_succ];exact ih
 rw[bj1,ih hl,List.map_append,List.map_singleton,hn]
 congr 2
 unfold ap9
 rcases hs with hs|⟨hs,h0,h1⟩
 ·rw[if_neg (by omega),if_neg (by omega),if_pos hs,hr]
 ·rw[if_neg (by omega),if_neg (by omega),if_neg (by omega),if_pos hs,if_pos ⟨h0,by rw[List.length_replicate];exact h1⟩,List.take_replicate,hr]
end
section
def ax4 (n e:Int):ByteArray:=if e=3 then dy3 else if ¬e=0 then at0 else if n< -1000000∨1000000<n then⟨#[]⟩else G6 n
def cr4 (l:List Int) (e:Int):ByteArray:=if 60<l.length then⟨#[]⟩else if ¬e=0 then ax4 0 e else if l=[]then bH2 else J9 (l.map G6)
theorem cu9 {n e:Int} (h: -1000000≤n∧n≤1000000):ax4 n e=at1 n e:=by
 unfold ax4 at1
 by_cases h0:e=0
 ·subst h0
  rw[if_neg (by decide),if_neg (by decide),if_neg (by omega),if_pos rfl]
 ·rw[if_neg h0,if_pos h0]
theorem ek3 {l:List Int} {e:Int} (h:l.length≤60):cr4 l e=as3 l e:=by
 unfold cr4 as3
 rw[if_neg (by omega)]
 by_cases h0:e=0
 ·subst h0
  simp
 ·rw[if_pos h0,if_pos h0,cu9 (by omega)]
def ep0 (n:Int):ByteArray:=J8 (C8 aZ5++32::C8 (G6 n))
def ep1 (n:Int):ByteArray:=J8 (C8 aN6++32::C8 (G6 n))
def av3 (a b:Int):List ByteArray:=[aZ3,aI3,aZ4,ep0 a,aO9,bs8,aI4,ep1 b,bi1]
def aP4 (t:D5) (a b:Int):List ByteArray:=[G6 (if cM3 t.h then 1 else 0),at1 (am2 t.h) (aq2 (valid t.h)),as3 (ch2 t.h) (aq2 (valid t.h)),at1 (bz8 t.h a) (bz7 t.h a),at1 (bi4 t.h) (bi3 t.h),
 at1 (newR t.s) (aa9 t.s true),as3 (az7 t.s) (ax6 (Y5 t.s)),as3 [az0 t.s b,az1 t.s b] (aa9 t.s (as8 t.s b)),at1 (aS6 t.s) (aS5 t.s)]
theorem eE1 {w:ByteArray} {n:Int} (hw:∀b∈C8 w,b≠32) (h1: -1000000<n) (h2:n<1000000) (e1:U3 w≠1) (e2:Y3 w=1):
 A8 (J8 (C8 w++32::C8 (G6 n)))=⟨2,0,w,J9 [w,G6 n],[n]⟩:=by
 have hs:C9 (J8 (C8 w++32::C8 (G6 n)))=[w,G6 n]:=by
  rw[ay0,ap5 hw,ap5 (a:=G6 n) (da9 n)]
  rfl
 have hn:T9 [G6 n]=some [n]:=by
  unfold T9
  rw[db3 h1 h2]
  rfl
 have ha:=bj3 hn e1 e2
 unfold A8 ac8
 rw[hs,ha,if_pos (show(2:Int)≠0 by decide)]
def bc4 (t:D5) (s:ByteArray):ByteArray:=U6 t (A8 s).word (A8 s).nums
theorem fc9 (t:D5) {a b:Int} (ha: -999999≤a∧a≤999999) (hb: -999999≤b∧b≤999999):(∀s∈av3 a b,(A8 s).kind=2)∧(av3 a b).map (bc4 t)=aP4 t a b:=by
 have r0:A8 aZ3=⟨2,0,aZ3,aZ3,[]⟩:=by decide
 have r1:A8 aI3=⟨2,0,aI3,aI3,[]⟩:=by decide
 have r2:A8 aZ4=⟨2,0,aZ4,aZ4,[]⟩:=by decide
 have r3:A8 (ep0 a)=⟨2,0,aZ5,J9 [aZ5,G6 a],[a]⟩:=eE1 (by decide) (by omega) (by omega) (by decide) (by decide)
 have r4:A8 aO9=⟨2,0,aO9,aO9,[]⟩:=by decide
 have r5:A8 bs8=⟨2,0,bs8,bs8,[]⟩:=by decide
 have r6:A8 aI4=⟨2,0,aI4,aI4,[]⟩:=by decide
 have r7:A8 (ep1 b)=⟨2,0,aN6,J9 [aN6,G6 b],[b]⟩:=eE1 (by decide) (by omega) (by omega) (by decide) (by decide)
 have r8:A8 bi1=⟨2,0,bi1,bi1,[]⟩:=by decide
 constructor
 ·intro s hs
  simp only[av3,List.mem_cons,List.not_mem_nil,or_false]at hs
  rcases hs with rfl|rfl|rfl|rfl|rfl|rfl|rfl|rfl|rfl
  ·rw[r0]
  ·rw[r1]
  ·rw[r2]
  ·rw[r3]
  ·rw[r4]
  ·rw[r5]
  ·rw[r6]
  ·rw[r7]
  ·rw[r8]
 ·have g0:bc4 t aZ3=G6 (if cM3 t.h then 1 else 0):=by unfold bc4;rw[r0];unfold U6;rw[if_pos rfl]
  have g1:bc4 t aI3=at1 (am2 t.h) (aq2 (valid t.h)):=by unfold bc4;rw[r1];unfold U6;rw[if_neg (by decide),if_pos rfl]
  have g2:bc4 t aZ4=as3 (ch2 t.h) (aq2 (valid t.h)):=by unfold bc4;rw[r2];unfold U6;rw[if_neg (by decide),if_neg (by decide),if_pos rfl]
  have g3:bc4 t (ep0 a)=at1 (bz8 t.h a) (bz7 t.h a):=by unfold bc4;rw[r3];show U6 t aZ5 [a]=_;unfold U6;rw[if_neg (by decide),if_neg (by decide),if_neg (by decide),if_pos rfl];rfl
  have g4:bc4 t aO9=at1 (bi4 t.h) (bi3 t.h):=by unfold bc4;rw[r4];unfold U6;rw[if_neg (by decide),if_neg (by decide),if_neg (by decide),if_neg (by decide),if_pos rfl]
  have g5:bc4 t bs8=at1 (newR t.s) (aa9 t.s true):=by unfold bc4;rw[r5];unfold U6;rw[if_neg (by decide),if_neg (by decide),if_neg (by decide),if_neg (by decide),if_neg (by decide),if_pos rfl]
  have g6:bc4 t aI4=as3 (az7 t.s) (ax6 (Y5 t.s)):=by unfold bc4;rw[r6];unfold U6;rw[if_neg (by decide),if_neg (by decide),if_neg (by decide),if_neg (by decide),if_neg (by decide),if_neg (by decide),if_pos rfl]
  have g7:bc4 t (ep1 b)=as3 [az0 t.s b,az1 t.s b] (aa9 t.s (as8 t.s b)):=by unfold bc4;rw[r7];show U6 t aN6 [b]=_;unfold U6;rw[if_neg (by decide),if_neg (by decide),if_neg (by decide),if_neg (by decide),if_neg (by decide),if_neg (by decide),if_neg (by decide),if_pos rfl];rfl
  have g8:bc4 t bi1=at1 (aS6 t.s) (aS5 t.s):=by unfold bc4;rw[r8];unfold U6;rw[if_neg (by decide),if_neg (by decide),if_neg (by decide),if_neg (by decide),if_neg (by decide),if_neg (by decide),if_neg (by decide),if_neg (by decide)]
  unfold av3 aP4
  simp only[List.map_cons,List.map_nil,g0,g1,g2,g3,g4,g5,g6,g7,g8]
def aG0 (a b:Int) (k:Nat):List ByteArray:=(List.range k).map fun(i:Nat)=>atB (i:Int) ((av3 a b).getD i ⟨#[]⟩)
theorem fd2 {t:D5} {a b:Int} (v:F6 t=true) (ha: -999999≤a∧a≤999999) (hb: -999999≤b∧b≤999999):
 (V5 t (av3 a b)=t∧O0 t (av3 a b)=[]∧Y1 t (av3 a b)=aP4 t a b)∧V5 t (aG0 a b 9)=t∧O0 t (aG0 a b 9)=[]∧Y1 t (aG0 a b 9)=aP4 t a b:=by
 obtain⟨hk,hm⟩:=fc9 t ha hb
 have l9:(av3 a b).length=9:=rfl
 have l9':(aG0 a b 9).length=9:=by simp[aG0]
 have hat:∀k s,At (aG0 a b 9) k s→∃q∈av3 a b,A8 s={A8 q with kind:=3,of:=(k:Int)}∧(av3 a b).getD k ⟨#[]⟩=q:=fun k s h=>by
  have h9:k<9:=by have:=(List.getElem?_eq_some_iff.1 h).1;omega
  have e:s=atB (k:Int) ((av3 a b).getD k ⟨#[]⟩):=by
   have h':(aG0 a b 9)[k]? =some s:=h
   unfold aG0 at h'
   rw[List.getElem?_map,List.getElem?_range h9]at h'
   exact(Option.some.inj h').symm
  have hq:(av3 a b).getD k ⟨#[]⟩∈av3 a b:=by
   rw[ff3,fg0 (by omega)]
   exact List.getElem_mem _
  exact⟨_,hq,by rw[e];exact dH6 (by omega) (by omega) (hk _ hq),rfl⟩
 have hA:∀s∈aG0 a b 9,(A8 s).kind=3∧0≤(A8 s).of∧∃k,At (aG0 a b 9) k s∧(A8 s).of≤(k:Int):=fun s hs=>by
  obtain⟨k,hk'⟩:=List.mem_iff_getElem?.1 hs
  obtain⟨q,_,e,_⟩:=hat k s hk'
  rw[e]
  exact⟨rfl,Int.natCast_nonneg k,k,hk',Int.le_refl _⟩
 obtain⟨q1,q2⟩:=eH0 (t:=t) (l:=av3 a b) v (by omega) (fun s hs=> .inl (hk s hs))
 obtain⟨p1,p2⟩:=eH0 (t:=t) (l:=aG0 a b 9) v (by omega) (fun s hs=> .inr (hA s hs))
 refine⟨⟨q1,q2, ?_⟩,p1,p2, ?_⟩
 ·rw[ap6 v (by omega),eq2 _ (fun k s h=> .inl (hk s (List.mem_of_getElem? h)))]
  exact hm
 ·rw[ap6 v (by omega),eq2 _ (fun k s h=> .inr (by
   obtain⟨q,_,e,_⟩:=hat k s h
   rw[e]
   exact⟨rfl,Int.natCast_nonneg k,Int.le_refl _⟩)),←hm]
  apply List.ext_getElem?
  intro k
  rw[List.getElem?_map,List.getElem?_map]
  by_cases h9:k<9
  ·rw[fg0 (by omega),fg0 (by omega),Option.map_some,Option.map_some]
   obtain⟨q,hq,e,eg⟩:=hat k _ (fg0 (show k<(aG0 a b 9).length by omega))
   rw[e]
   rw[ff3,fg0 (by omega)]at eg
   rw[show(av3 a b)[k]'(by omega)=q from eg]
   rfl
  ·rw[List.getElem?_eq_none (by omega),List.getElem?_eq_none (by omega)]
   rfl
end
section
theorem cE6 {n:Int} (h: -999999≤n∧n≤999999):(G6 n).size≤7:=by
 show(Lib.itoa n).length≤7
 unfold Lib.itoa
 split
 ·rw[ff8]
  have:=aI6 n.natAbs 5 (by omega)
  omega
 ·have:=aI6 n.toNat 5 (by omega)
  omega
theorem eI4 (n:Int):(⟨#[119,97,105,116,32]⟩:ByteArray)++G6 n=ep0 n:=by
 apply ah1
 rw[aa5]
 rfl
theorem eI5 (n:Int):(⟨#[108,101,102,116,32]⟩:ByteArray)++G6 n=ep1 n:=by
 apply ah1
 rw[aa5]
 rfl
theorem fi2 {n:Int} (h: -999999≤n∧n≤999999):(ep0 n).size≤12:=by
 rw[←eI4,ByteArray.size_append]
 have:=cE6 h
 show 5+_≤_
 omega
theorem fi3 {n:Int} (h: -999999≤n∧n≤999999):(ep1 n).size≤12:=by
 rw[←eI5,ByteArray.size_append]
 have:=cE6 h
 show 5+_≤_
 omega
theorem eN1 {a b:Int} (ha: -999999≤a∧a≤999999) (hb: -999999≤b∧b≤999999):∀s∈av3 a b,s.size≤20:=fun s hs=>by
 simp only[av3,List.mem_cons,List.not_mem_nil,or_false]at hs
 rcases hs with rfl|rfl|rfl|rfl|rfl|rfl|rfl|rfl|rfl
 ·decide
 ·decide
 ·decide
 ·exact fh1 (fi2 ha) (by omega)
 ·decide
 ·decide
 ·decide
 ·exact fh1 (fi3 hb) (by omega)
 ·decide
theorem fd3 (a b:Int) (k:Nat):aG0 a b (k+1)=aG0 a b k++[atB (k:Int) ((av3 a b).getD k ⟨#[]⟩)]:=by
 unfold aG0;rw[List.range_succ,List.map_append];rfl
theorem ek4 (a b:Int) (k:Nat):(aG0 a b k).length=k:=by unfold aG0;simp
end
section
open Go.RowKit
attribute [local go_sem] j4.drew j4.alloc j4.drewN WB.holds Oper.semAt_some
theorem aK5 (n e:Int) (w:World):Calls Tryz.prog 32 #[.int .i64 n,.int .i64 e] w (I1 w (.string (ax4 n e))):=by
 by_cases h3:e=3
 ·have hE:ax4 n e=dy3:=by unfold ax4;rw[if_pos h3]
  rw[hE]
  subst h3
  clear hE
  go_enter Tryz.func32,Tryz.ntmps32
  go_wp2
  go_ret
  exact⟨rfl,Below.refl _ _⟩
 have t3:(e==3)=false:=beq_eq_false_iff_ne.2 h3
 by_cases h0:e=0
 rotate_left
 ·have hE:ax4 n e=at0:=by unfold ax4;rw[if_neg h3,if_pos h0]
  rw[hE]
  have t0:(e==0)=false:=beq_eq_false_iff_ne.2 h0
  clear hE h3
  go_enter Tryz.func32,Tryz.ntmps32
  go_wp2
  go_ret
  exact⟨rfl,Below.refl _ _⟩
 subst h0
 by_cases hn:n< -1000000
 ·have hE:ax4 n 0=⟨#[]⟩:=by unfold ax4;rw[if_neg (by decide),if_neg (by decide),if_pos (.inl hn)]
  rw[hE]
  clear hE h3 t3
  go_enter Tryz.func32,Tryz.ntmps32
  go_wp2
  go_ret
  exact⟨rfl,Below.refl _ _⟩
 by_cases hm:1000000<n
 ·have hE:ax4 n 0=⟨#[]⟩:=by unfold ax4;rw[if_neg (by decide),if_neg (by decide),if_pos (.inr hm)]
  rw[hE]
  clear hE h3 t3
  go_enter Tryz.func32,Tryz.ntmps32
  go_wp2
  go_ret
  exact⟨rfl,Below.refl _ _⟩
 have hE:ax4 n 0=G6 n:=by unfold ax4;rw[if_neg (by decide),if_neg (by decide),if_neg (by omega)]
 rw[hE]
 have ht:=fe6 (bL9 n (by omega) (by omega))
 clear hE h3 t3
 go_enter Tryz.func32,Tryz.ntmps32
 go_wp2_with(first|(go_at_call 41;refine(ht.out _).mono ?_;rintro e w4 ⟨rfl,hb4⟩))
 go_ret
 exact⟨rfl,hb4⟩
theorem dV2 (v:Value) (l:List Int) (e:Int) (hb:∀x∈l,0≤x∧x≤9999) (H:j5) (w:World) (hw:j4 H w) (hv:Sl H v l):
 Calls Tryz.prog 34 #[v,.int .i64 e] w (I1 w (.string (cr4 l e))):=by
 obtain⟨a,c,rfl,_,_⟩:=hv.form
 by_cases h60:60<l.length
 ·have hE:cr4 l e=⟨#[]⟩:=by unfold cr4;rw[if_pos h60]
  rw[hE]
  have h6:(60:Int)<(l.length:Int):=by omega
  clear hE
  go_enter Tryz.func34,Tryz.ntmps34
  go_wp2
  go_ret
  exact⟨rfl,Below.refl _ _⟩
 have h6:¬(60:Int)<(l.length:Int):=by omega
 by_cases h0:e=0
 rotate_left
 ·have hE:cr4 l e=ax4 0 e:=by unfold cr4;rw[if_neg h60,if_pos h0]
  rw[hE]
  have t0:(e==0)=false:=beq_eq_false_iff_ne.2 h0
  have hc:=fe6 fun(W:World)=>aK5 0 e W
  clear hE
  go_enter Tryz.func34,Tryz.ntmps34
  go_wp2_with(first|(go_at_call 32;refine(hc.out _).mono ?_;rintro e w4 ⟨rfl,hb4⟩))
  go_ret
  exact⟨rfl,hb4⟩
 subst h0
 have hjz:(J9 (l.map G6)).size≤100000:=by
  have h1:=bO3 (l.map G6) 4 (fun s hs=>by
   obtain⟨x,hx,rfl⟩:=List.mem_map.1 hs
   exact aC4 (hb x hx).1 (hb x hx).2)
  rw[fg5]at h1
  omega
 have hlm:(l.map G6).length=l.length:=fg5 _
 have hle:=fun k (h:k≤(l.map G6).length)=>dc5 (l.map G6) h
 have hfin:J8 (ah6 (l.map G6) (l.map G6).length)=J9 (l.map G6):=rfl
 have hE:cr4 l 0=if l=[]then bH2 else J9 (l.map G6):=by unfold cr4;rw[if_neg h60,if_neg (by decide)]
 have hnb:=fun(x:Int) (hx:x∈l) (W:World)=>show Calls Tryz.prog 32 #[.int .i64 x,.int .i64 0] W (I1 W (.string (G6 x)))from by
  have h:=aK5 x 0 W
  rw[cu9 (by have:=hb x hx;omega)]at h
  exact h
 have hat:=fun(k:Nat) (x:Int) (hx:At l k x)=>show At (l.map G6) k (G6 x)from by
  unfold At at*
  rw[List.getElem?_map,hx];rfl
 generalize J9 (l.map G6)=J at*
 generalize l.map G6=p at*
 replace hle:=fe6 hle
 replace hfin:=fe6 hfin
 replace hE:=fe6 hE
 replace hnb:=fe6 hnb
 replace hat:=fe6 hat
 replace hlm:=fe6 hlm
 go_enter Tryz.func34,Tryz.ntmps34
 go_wp2
 go_loopw [5,6] (fun o i wr=>∃(k:Nat) (acc:ByteArray),k≤l.length∧i= .int .i64 (k:Int)∧o= .string acc∧Hid (acc=J8 (ah6 p k))∧Ext w H wr H) (fun _ i _=>l.length-(intOf i).toNat)
 case atStart=>exact⟨0,⟨#[]⟩,fh3 _,rfl,rfl,rfl,Ext.refl hw⟩
 case round=>
  obtain⟨k,acc,hk,rfl,rfl,hacc,xr⟩:=hrel
  have hwr:=xr.holds
  have hk0:(0:Int)≤(k:Int):=by omega
  by_cases hlk:k<l.length
  ·obtain⟨x,hx⟩:=At.mk hlk
   obtain⟨b,o,cc,he,hi,r1⟩:=hv.int hx
   cases he
   have hs:=hat.out k x hx
   have hk1:(k:Int)<(l.length:Int):=by omega
   have hl1:=hle.out (k+1) (by rw[hlm.out];exact hlk)
   have hsz:(J8 (ah6 p (k+1))).size=(ah6 p (k+1)).length:=rfl
   have hc:=fe6 (hnb.out x hx.mem)
   by_cases h0:k=0
   ·subst h0
    simp only[fh2]at r1
    have bj4:=cN5 p hs hacc.out
    rw[bj4,ByteArray.size_append]at hsz
    have hb1:¬9223372036854775807<acc.size+(G6 x).size:=by omega
    generalize G6 x=s at*
    replace bj4:=fe6 bj4
    clear hs hl1 hsz hx
    go_wp2_with(first|(go_at_call 32;refine(hc.out _).mono ?_;rintro e w4 ⟨rfl,hb4⟩))
    go_roundw
    case rel=>exact⟨1,_,hlk,by go_num,rfl,by show _=_;rw[bj4.out],xr.step (hb4.mono xr.below.size) (hwr.below hb4)⟩
    case measure=>simp[intOf];omega
   ·have bj4:=dc6 p h0 hs hacc.out
    rw[bj4,ByteArray.size_append,ByteArray.size_append]at hsz
    have h1:(⟨#[32]⟩:ByteArray).size=1:=rfl
    rw[h1]at hsz
    have hb1:¬9223372036854775807<acc.size+1:=by omega
    have hb2:¬9223372036854775807<acc.size+1+(G6 x).size:=by omega
    have hpos:(0:Int)<(k:Int):=by omega
    generalize G6 x=s at*
    replace bj4:=fe6 bj4
    clear hs hl1 hsz h0 hx
    go_wp2_with(first|(go_at_call 32;refine(hc.out _).mono ?_;rintro e w4 ⟨rfl,hb4⟩))
    go_roundw
    case rel=>exact⟨k+1,_,hlk,by go_num,rfl,by show _=_;rw[bj4.out],xr.step (hb4.mono xr.below.size) (hwr.below hb4)⟩
    case measure=>simp[intOf];omega
  ·have hke:k=l.length:=by omega
   have hk1:¬(k:Int)<(l.length:Int):=by omega
   have e:=hacc.out
   rw[hke,←hlm.out,hfin.out]at e
   by_cases hz:l=[]
   ·have hEE:=hE.out
    rw[if_pos hz]at hEE
    replace hEE:=fe6 hEE
    have hl0:l.length=0:=by rw[hz];rfl
    have tz:((l.length:Int)==0)=true:=beq_iff_eq.2 (by omega)
    clear hacc e hE hz hat hnb hle hfin
    go_wp2
    go_ret
    refine⟨?_,xr.below⟩
    rw[hEE.out];rfl
   ·have hEE:=hE.out
    rw[if_neg hz]at hEE
    rw[←e]at hEE
    replace hEE:=fe6 hEE
    have hl0:l.length≠0:=fun h=>hz (List.eq_nil_of_length_eq_zero h)
    have tz:((l.length:Int)==0)=false:=beq_eq_false_iff_ne.2 (by omega)
    clear hacc e hE hz hat hnb hle hfin
    go_wp2
    go_ret
    refine⟨?_,xr.below⟩
    rw[hEE.out];rfl
end
section
open Go.RowKit
attribute [local go_sem] j4.drew j4.alloc j4.drewN WB.holds Oper.semAt_some Q9 O1 J7
theorem Ext.ce8 {w0 w:World} {H0 H:j5} (x:Ext w0 H0 w H) (o:Obj):LeB w (w.alloc o):=(Below.refl _ _).alloc (fh0 _) o
theorem eE9 {w0 w:World} {H0 H:j5} (hx:Ext w0 H0 w H) {z0 z1 z2 z3 z4 z5 z6 z7 z8:ByteArray} (ha:∀x∈[z0,z1,z2,z3,z4,z5,z6,z7,z8],x.size≤1000000):
 ∃H2,D8 H H2∧Ext w0 H0 (w.alloc (.cells #[.string z0,.string z1,.string z2,.string z3,.string z4,.string z5,.string z6,.string z7,.string z8] 9)) H2∧Sl H2 (.slice (some ⟨w.heap.size,0,none⟩) 9 9) [z0,z1,z2,z3,z4,z5,z6,z7,z8]:=
 aN5 hx [z0,z1,z2,z3,z4,z5,z6,z7,z8] ha (by simp)
theorem eJ1 {w0 w:World} {H0 H:j5} (hx:Ext w0 H0 w H) {lo hi:Int} (h1:K8 lo) (h2:K8 hi):
 ∃H2,D8 H H2∧Ext w0 H0 (w.alloc (.cells #[.int .i64 lo,.int .i64 hi] 3)) H2∧Sl H2 (.slice (some ⟨w.heap.size,0,none⟩) 2 2) [lo,hi]:=by
 obtain⟨x5,l5,hp⟩:=hx.newF #[.int .i64 lo,.int .i64 hi] 3
 exact⟨_,l5,x5,eg4 hp h1 h2⟩
theorem eX1 (n:Int) (e:ByteArray):(⟨#[97,116,32]⟩:ByteArray)++G6 n++⟨#[32]⟩++e=atB n e:=by
 apply ah1
 rw[aa5,aa5,aa5]
 rfl
theorem ft8 {a b:Int} (ha: -999999≤a∧a≤999999) (hb: -999999≤b∧b≤999999):∀s∈aG0 a b 9,s.size≤60:=fun s hs=>by
 unfold aG0 at hs
 obtain⟨i,hi,rfl⟩:=List.mem_map.1 hs
 have h9:i<9:=List.mem_range.1 hi
 have hT:(G6 (i:Int)).size≤4:=aC4 (by omega) (by omega)
 have hq:((av3 a b).getD i ⟨#[]⟩).size≤20:=eN1 ha hb _ (by
  rw[ff3,fg0 (show i<(av3 a b).length from h9)]
  exact List.getElem_mem _)
 rw[←eX1,ByteArray.size_append,ByteArray.size_append,ByteArray.size_append]
 show 3+_+1+_≤_
 omega
theorem fi4 (h:A9):(aT6 h).length≤60:=by
 unfold aT6
 split
 ·exact fh1 (cT5 h (2 ^ h.ts.length)).1 (by decide)
 ·exact fh3 _
theorem eX8 (s:G5):(az7 s).length≤60:=by
 unfold az7
 split
 ·rename_i hv
  have h6:=(aj5.1 hv).o6
  have h1:(F4 s).length≤s.wo.length:=aJ5 s s.wo.length
  show((F4 s).map Int.ofNat).length≤60
  rw[fg5]
  omega
 ·exact fh3 _
theorem bu8 {n e:Int} (h:0≤n∧n≤9999):(at1 n e).size≤10:=by
 unfold at1
 split
 ·exact fh1 (aC4 h.1 h.2) (by omega)
 ·split
  ·decide
  ·decide
theorem cJ4 {l:List Int} {e:Int} (hl:l.length≤1000) (h:∀x∈l,0≤x∧x≤9999):(as3 l e).size≤100000:=by
 unfold as3
 split
 ·exact fh1 (bu8 ⟨by omega,by omega⟩) (by omega)
 ·split
  ·decide
  ·have h1:=bO3 (l.map G6) 4 (fun s hs=>by
    obtain⟨x,hx,rfl⟩:=List.mem_map.1 hs
    exact aC4 (h x hx).1 (h x hx).2)
   rw[fg5]at h1
   omega
theorem eJ2 (vm vb vt um uo ua:Value) (t:D5) (a b:Int) (H:j5) (dr:Doors H) (w:World) (hw:j4 H w) (ht:Twn H vm vb vt um uo ua t) (haI:K8 a) (hbI:K8 b):
 Calls Tryz.prog 9 #[ah0 vm vb vt um uo ua t,.int .i64 a,.int .i64 b] w (I1 w (.bool true)):=by
 have cW:=fun(H':j5) (W:World) (hW:j4 H' W) (hle:D8 H H')=>aO6 H' (dr.mono hle) W hW
 replace cW:=fe6 cW
 have cR:=fun(H':j5) (W:World) (hW:j4 H' W) (hle:D8 H H')=>aA3 vm vb vt um uo ua (.slice none 0 0) t [] H' W hW (ht.mono hle) (Sl.Y9 _)
 obtain⟨ra,hwa⟩:∃r,within a (-999999) 999999=r:=⟨_,rfl⟩
 obtain⟨rb,hwb⟩:∃r,within b (-999999) 999999=r:=⟨_,rfl⟩
 obtain⟨rr,hr⟩:∃r,aF8 t []=r:=⟨_,rfl⟩
 rw[hr]at cR
 replace cR:=fe6 cR
 have mk1:Hid True:=fe6 trivial
 by_cases hE:rr=false∨(rr=true∧(ra=false∨(ra=true∧rb=false)))
 ·rcases hE with rfl|⟨rfl,rfl|⟨rfl,rfl⟩⟩
  all_goals
   clear ht dr hr
   go_enter Tryz.func9,Tryz.ntmps9
   go_wp2_with(first|(refine af8 rfl _ rfl (Ext.refl hw) ?_;intro B w1 H1 hle hx hB hBw;obtain⟨hc0,hc1,hc2,hc3,hc4,O8,hc6,O9⟩:=I5 hB;clear hB hw;have hw1:=hx.holds)|((go_at_call 17;go_must (refine(cR.out _ _ hw1 hle).mono ?_);rintro e w2 ⟨rfl,hb2⟩;have x2:=hx.step (hb2.mono hx.below.size) (hw1.below hb2);have hw2:=x2.holds))|(have hgd:=mk1;clear hgd;go_at_call 26;refine(aD4 _ _ _ _).mono ?_;rintro e w5 ⟨rfl,rfl⟩;rw[hwa];clear mk1)|(go_at_call 26;refine(aD4 _ _ _ _).mono ?_;rintro e w6 ⟨rfl,rfl⟩;rw[hwb])|((go_at_call 18;first|(refine(cW.out _ _ x2.holds hle).mono ?_;rintro e wz ⟨rfl,hbz⟩;have xz:=x2.step (hbz.mono x2.below.size) (x2.holds.below hbz))|(refine(cW.out _ _ hx.holds hle).mono ?_;rintro e wz ⟨rfl,hbz⟩;have xz:=hx.step (hbz.mono hx.below.size) (hx.holds.below hbz)))))
   go_ret
   exact⟨rfl,xz.below⟩
 have e1:rr=true:=by
  cases rr
  ·exact absurd (.inl rfl) hE
  ·rfl
 subst e1
 have e2:ra=true:=by
  cases ra
  ·exact absurd (.inr ⟨rfl,.inl rfl⟩) hE
  ·rfl
 subst e2
 have e3:rb=true:=by
  cases rb
  ·exact absurd (.inr ⟨rfl,.inr ⟨rfl,rfl⟩⟩) hE
  ·rfl
 subst e3
 clear hE
 have R:=aL3.1 hr
 obtain⟨a0,a1⟩: -999999≤a∧a≤999999:=by unfold within at hwa;simpa using hwa
 obtain⟨b0,b1⟩: -999999≤b∧b≤999999:=by unfold within at hwb;simpa using hwb
 have hv:valid t.h=true:=by have v:=R.v;unfold F6 at v;rw[fh9]at v;exact v.1
 have he:aq2 (valid t.h)=0:=by rw[hv];rfl
 obtain⟨⟨eD3,fE6,eY9⟩,fE7,fE8,fi5⟩:=fd2 (t:=t) R.v ⟨a0,a1⟩ ⟨b0,b1⟩
 have ep6:=fun(H1:j5) (W:World) (hW:j4 H1 W) (hle:D8 H H1)=>de5 vm vb vt t.h H1 W hW (ht.h.mono hle)
 have cF:=fun(H1:j5) (W:World) (hW:j4 H1 W) (hle:D8 H H1)=>cA4 vm vb vt t.h H1 W hW (ht.h.mono hle)
 have dZ7:=fun(H1:j5) (W:World) (hW:j4 H1 W) (hle:D8 H H1)=>dd9 vm vb vt t.h H1 W hW (ht.h.mono hle)
 have cWt:=fun(H1:j5) (W:World) (hW:j4 H1 W) (hle:D8 H H1)=>dq8 vm vb vt t.h a haI H1 W hW (ht.h.mono hle)
 have cSp:=fun(H1:j5) (W:World) (hW:j4 H1 W) (hle:D8 H H1)=>de0 vm vb vt t.h H1 W hW (ht.h.mono hle)
 have cNw:=fun(H1:j5) (W:World) (hW:j4 H1 W) (hle:D8 H H1)=>du3 um uo ua t.s H1 W hW (ht.s.mono hle)
 have ep7:=fun(H1:j5) (W:World) (hW:j4 H1 W) (hle:D8 H H1)=>cB9 um uo ua t.s H1 W hW (ht.s.mono hle)
 have eF9:=fun(H1:j5) (W:World) (hW:j4 H1 W) (hle:D8 H H1)=>dg4 um uo ua t.s b hbI H1 W hW (ht.s.mono hle)
 have cTs:=fun(H1:j5) (W:World) (hW:j4 H1 W) (hle:D8 H H1)=>dg8 um uo ua t.s H1 W hW (ht.s.mono hle)
 have q1:=cc9 t.h
 have q2:=ct2 t.h
 have q3:=cc8 t.h a
 have q4:=bO1 t.h
 have q5:=cH3 t.s
 have q6:=bO2 t.s
 have q7:=bW1 t.s b
 have q8:=ct1 t.s
 have qt:(aT6 t.h).length≤60:=fi4 t.h
 have qw:(az7 t.s).length≤60:=eX8 t.s
 rw[(bl5 t.h a).1,(bl5 t.h a).2]at cWt
 rw[(bl5 t.h a).1]at q3
 rw[(ba5 t.h).1,(ba5 t.h).2]at cSp
 rw[(ba5 t.h).1]at q4
 rw[cq5]at dZ7 q2 qt
 rw[ds7,he]at ep6
 have n0:=fun(W:World)=>aK5 (if cM3 t.h then 1 else 0) 0 W
 have n1:=fun(W:World)=>aK5 (am2 t.h) (aq2 (valid t.h)) W
 have n2:=fun(v:Value) (H':j5) (W:World) (hW:j4 H' W) (h:Sl H' v (ch2 t.h))=>dV2 v (ch2 t.h) (aq2 (valid t.h)) q2.2 H' W hW h
 have n3:=fun(W:World)=>aK5 (bz8 t.h a) (bz7 t.h a) W
 have n4:=fun(W:World)=>aK5 (bi4 t.h) (bi3 t.h) W
 have n5:=fun(W:World)=>aK5 (newR t.s) (aa9 t.s true) W
 have n6:=fun(v:Value) (H':j5) (W:World) (hW:j4 H' W) (h:Sl H' v (az7 t.s))=>dV2 v (az7 t.s) (ax6 (Y5 t.s)) q6.2 H' W hW h
 have n7:=fun(v:Value) (H':j5) (W:World) (hW:j4 H' W) (h:Sl H' v [az0 t.s b,az1 t.s b])=>dV2 v [az0 t.s b,az1 t.s b] (aa9 t.s (as8 t.s b)) (fun x hx=>by
  rcases List.mem_cons.1 hx with rfl|hx
  ·exact q7.1
  ·rw[List.mem_singleton.1 hx];exact q7.2) H' W hW h
 have n8:=fun(W:World)=>aK5 (aS6 t.s) (aS5 t.s) W
 rw[cu9 (by split<;>omega)]at n0
 rw[cu9 (by omega)]at n1 n3 n4 n5 n8
 rw[ek3 qt]at n2
 rw[ek3 qw]at n6
 rw[ek3 (show [az0 t.s b,az1 t.s b].length≤60 by show 2≤60;omega)]at n7
 have hz9:∀x∈aP4 t a b,x.size≤1000000:=fun x hx=>by
  unfold aP4 at hx
  simp only[List.mem_cons,List.not_mem_nil,or_false]at hx
  rcases hx with rfl|rfl|rfl|rfl|rfl|rfl|rfl|rfl|rfl
  ·exact fh1 (aC4 (by split<;>omega) (by split<;>omega)) (by omega)
  ·exact fh1 (bu8 q1) (by omega)
  ·exact fh1 (cJ4 q2.1 q2.2) (by omega)
  ·exact fh1 (bu8 q3) (by omega)
  ·exact fh1 (bu8 q4) (by omega)
  ·exact fh1 (bu8 q5) (by omega)
  ·exact fh1 (cJ4 q6.1 q6.2) (by omega)
  ·exact fh1 (cJ4 (by show 2≤1000;omega) (fun x hx=>by
    rcases List.mem_cons.1 hx with rfl|hx
    ·exact q7.1
    ·rw[List.mem_singleton.1 hx];exact q7.2)) (by omega)
  ·exact fh1 (bu8 q8) (by omega)
 have hn0:at1 (if cM3 t.h then 1 else 0) 0=G6 (if cM3 t.h then 1 else 0):=rfl
 rw[hn0]at n0
 have hlo:K8 (az0 t.s b):=⟨by omega,by omega⟩
 have hhi:K8 (az1 t.s b):=⟨by omega,by omega⟩
 have hWW:aP4 t a b=[G6 (if cM3 t.h then 1 else 0),at1 (am2 t.h) (aq2 (valid t.h)),as3 (ch2 t.h) (aq2 (valid t.h)),at1 (bz8 t.h a) (bz7 t.h a),at1 (bi4 t.h) (bi3 t.h),at1 (newR t.s) (aa9 t.s true),as3 (az7 t.s) (ax6 (Y5 t.s)),as3 [az0 t.s b,az1 t.s b] (aa9 t.s (as8 t.s b)),at1 (aS6 t.s) (aS5 t.s)]:=rfl
 rw[hWW]at hz9
 clear q1 q2 q3 q4 q5 q6 q7 q8 qt qw hv hn0 haI hbI
 generalize G6 (if cM3 t.h then 1 else 0)=z0 at*
 generalize at1 (am2 t.h) (aq2 (valid t.h))=z1 at*
 generalize as3 (ch2 t.h) (aq2 (valid t.h))=z2 at*
 generalize at1 (bz8 t.h a) (bz7 t.h a)=z3 at*
 generalize at1 (bi4 t.h) (bi3 t.h)=z4 at*
 generalize at1 (newR t.s) (aa9 t.s true)=z5 at*
 generalize as3 (az7 t.s) (ax6 (Y5 t.s))=z6 at*
 generalize as3 [az0 t.s b,az1 t.s b] (aa9 t.s (as8 t.s b))=z7 at*
 generalize at1 (aS6 t.s) (aS5 t.s)=z8 at*
 generalize ch2 t.h=LT at*
 generalize az7 t.s=LW at*
 generalize az0 t.s b=lo at*
 generalize az1 t.s b=hi at*
 generalize aq2 (valid t.h)=ee at*
 generalize ax6 (Y5 t.s)=es at*
 generalize aa9 t.s (as8 t.s b)=ek at*
 generalize aa9 t.s true=en at*
 generalize am2 t.h=vf at*
 generalize bz8 t.h a=vw at*
 generalize bz7 t.h a=ew at*
 generalize bi4 t.h=vs at*
 generalize bi3 t.h=esp at*
 generalize newR t.s=vn at*
 generalize aS6 t.s=vt' at*
 generalize aS5 t.s=et at*
 obtain⟨sr,hsr⟩:∃sr:Int,Hid ((if cM3 t.h then(1:Int)else 0)=sr):=⟨_,rfl⟩
 rw[hsr.out]at n0
 generalize cM3 t.h=sB at*
 replace ep6:=fe6 ep6
 replace cF:=fe6 cF
 replace dZ7:=fe6 dZ7
 replace cWt:=fe6 cWt
 replace cSp:=fe6 cSp
 replace cNw:=fe6 cNw
 replace ep7:=fe6 ep7
 replace eF9:=fe6 eF9
 replace cTs:=fe6 cTs
 replace n0:=fe6 n0
 replace n1:=fe6 n1
 replace n2:=fe6 n2
 replace n3:=fe6 n3
 replace n4:=fe6 n4
 replace n5:=fe6 n5
 replace n6:=fe6 n6
 replace n7:=fe6 n7
 replace n8:=fe6 n8
 replace hz9:=fe6 hz9
 replace hlo:=fe6 hlo
 replace hhi:=fe6 hhi
 replace hWW:=fe6 hWW
 replace eY9:=fe6 eY9
 replace fi5:=fe6 fi5
 replace eD3:=fe6 eD3
 replace fE6:=fe6 fE6
 replace fE7:=fe6 fE7
 replace fE8:=fe6 fE8
 replace ht:=fe6 ht
 replace dr:=fe6 dr
 replace R:=fe6 R
 have cTa:=bL9 a (by omega) (by omega)
 have cTb:=bL9 b (by omega) (by omega)
 have wA:=eI4 a
 have wB:=eI5 b
 have zA:=cE6 ⟨a0,a1⟩
 have zB:=cE6 ⟨b0,b1⟩
 have hLL:Hid (av3 a b=[⟨#[115,117,114,101]⟩,⟨#[102,101,119,101,115,116]⟩,⟨#[116,111,108,100]⟩,(⟨#[119,97,105,116,32]⟩:ByteArray)++G6 a,⟨#[115,112,97,114,101]⟩,⟨#[110,101,119]⟩,⟨#[119,111,114,108,100,115]⟩,(⟨#[108,101,102,116,32]⟩:ByteArray)++G6 b,⟨#[116,101,115,116]⟩]):=fe6 (by rw[wA,wB];rfl)
 have eY0:=fe6 (eN1 ⟨a0,a1⟩ ⟨b0,b1⟩)
 have cU:=fun(lv:Value) (H':j5) (W:World) (hW:j4 H' W) (hle:D8 H H') (h2:Sl H' lv (av3 a b))=>aD1 vm vb vt um uo ua lv t (av3 a b) R.out.v (by show 9≤24;omega) (fun s hs=>by have:=eY0.out s hs;omega) H' (dr.out.mono hle) W hW (ht.out.mono hle) h2
 rw[eD3.out,fE6.out,eY9.out]at cU
 replace cU:=fe6 cU
 have hA9:=fe6 (ft8 ⟨a0,a1⟩ ⟨b0,b1⟩)
 have am0:=fun(lv:Value) (H':j5) (W:World) (hW:j4 H' W) (hle:D8 H H') (h2:Sl H' lv (aG0 a b 9))=>aD1 vm vb vt um uo ua lv t (aG0 a b 9) R.out.v (by rw[ek4];omega) (fun s hs=>by have:=hA9.out s hs;omega) H' (dr.out.mono hle) W hW (ht.out.mono hle) h2
 rw[fE7.out,fE8.out,fi5.out]at am0
 replace am0:=fe6 am0
 clear hA9
 generalize G6 a=XA at*
 generalize G6 b=XB at*
 replace cTa:=fe6 cTa
 replace cTb:=fe6 cTb
 have hqA:¬9223372036854775807<5+XA.size:=by omega
 have hqB:¬9223372036854775807<5+XB.size:=by omega
 clear hr he wA wB zA zB
 go_enter Tryz.func9,Tryz.ntmps9
 go_upto_if 40 with(first|(refine af8 rfl _ rfl (Ext.refl hw) ?_;intro B w1 H1 hle hx hB hBw;obtain⟨hc0,hc1,hc2,hc3,hc4,O8,hc6,O9⟩:=I5 hB;clear hB hw;have hw1:=hx.holds)|(go_at_call 17;go_must (refine(cR.out _ _ hw1 hle).mono ?_);rintro e w2 ⟨rfl,hb2⟩;have x2:=hx.step (hb2.mono hx.below.size) (hw1.below hb2);have hw2:=x2.holds)|(have hgd:=mk1;clear hgd;go_at_call 26;refine(aD4 _ _ _ _).mono ?_;rintro e w5 ⟨rfl,rfl⟩;rw[hwa];clear mk1)|(go_at_call 26;refine(aD4 _ _ _ _).mono ?_;rintro e w6 ⟨rfl,rfl⟩;rw[hwb])|(go_at_call 30;go_must (refine(ep6.out _ _ hw2 hle).mono ?_);rintro e w3 ⟨rfl,hb3⟩;have x3:=x2.step (hb3.mono x2.below.size) (hw2.below hb3);have hw3:=x3.holds))
 go_cut [9] (fun v wx=>v= .int .i64 sr∧Ext w H wx H1)
 case first=>
  cases sB
  ·go_wp2_with fail
   go_meet
   exact⟨by rw[←hsr.out];rfl,x3⟩
  ·go_wp2_with fail
   go_meet
   exact⟨by rw[←hsr.out];rfl,x3⟩
 case rest=>
  obtain⟨rfl,x3⟩:=hcut
  have hw3:=x3.holds
  clear x2 hw2 hx hw1 hb2 hb3 ep6 cR
  go_upto_region 8 with(go_at_call 31;go_must (refine(eF9.out _ _ hw3 hle).mono ?_);rintro e w4 ⟨rfl,hb4⟩;have x4:=x3.step (hb4.mono x3.below.size) (hw3.below hb4))
  have hn_:H1 (World.heap w4).size=none:=(x4).holds.D6 (fh0 _)
  have x5:=((x4).alloc (.cells #[.int .i64 lo,.int .i64 hi] 63)).freeze (x4).below.size (heap_alloc_new w4 _)
  have l5:=j5.L9 hn_ (.cells #[.int .i64 lo,.int .i64 hi] 63 (0,0))
  have ek5:=j5.G7 H1 (World.heap w4).size (.cells #[.int .i64 lo,.int .i64 hi] 63 (0,0))
  clear hn_
  generalize j5.put H1 (World.heap w4).size (.cells #[.int .i64 lo,.int .i64 hi] 63 (0,0))=H5 at*
  generalize World.alloc w4 (.cells #[.int .i64 lo,.int .i64 hi] 63)=w5 at*
  generalize(World.heap w4).size=D at*
  have s0:∀W,j4 H5 W→W.cell? ⟨D,0,none⟩=some (.int .i64 lo):=fun W hW=>D7 ek5 hW 0
  have s1:∀W,j4 H5 W→W.cell? ⟨D,1,none⟩=some (.int .i64 hi):=fun W hW=>D7 ek5 hW 1
  replace hc0:=lift l5 hc0
  replace hc1:=lift l5 hc1
  replace hc2:=lift l5 hc2
  replace hc3:=lift l5 hc3
  replace hc4:=lift l5 hc4
  replace O8:=lift l5 O8
  replace hc6:=lift l5 hc6
  replace O9:=lift l5 O9
  replace hle:=hle.trans l5
  have hw5:=x5.holds
  clear x4 x3 hw3 eF9 ek5 l5
  go_cut [12] (fun v wx=>∃p c Hx,v= .slice p 9 c∧Ext w H wx Hx∧D8 H5 Hx∧Sl Hx v [z0,z1,z2,z3,z4,z5,z6,z7,z8])
  case first=>
   refine eE8 54 (by kernel_rfl) (by kernel_rfl) ?_
   simp only[ff8,fg1,fh6,fh7,fg9,fg8,fg3,ff9,fg2]
   have xs:=x5.drew
   have hs:=xs.holds
   have ql0:D8 H5 H5:=D8.refl _
   generalize World.drew w5=ws at*
   refine an7 0 hs ?_
   refine an7 1 hs ?_
   refine av7 2 (fun w' h=>n0.out w') ?_
   refine an7 3 hs ?_
   refine an7 4 hs ?_
   (try simp only[Act.put,fe7,ff1,ff2])
   refine av7 5 (fun w' h=>cF.out _ w' (hs.below h) (hle.trans ql0)) ?_
   refine an7 6 hs ?_
   refine an7 7 hs ?_
   refine av7 8 (fun w' h=>n1.out w') ?_
   refine an7 9 hs ?_
   (try simp only[Act.put,fe7,ff1,ff2])
   refine an7 10 hs ?_
   refine an7 15 hs ?_
   refine an7 16 hs ?_
   refine an7 17 hs ?_
   refine an7 22 hs ?_
   (try simp only[Act.put,fe7,ff1,ff2])
   refine an7 23 hs ?_
   refine an7 28 hs ?_
   refine an7 29 hs ?_
   refine an7 34 hs ?_
   refine an7 35 hs ?_
   (try simp only[Act.put,fe7,ff1,ff2])
   refine an7 40 hs ?_
   refine an7 41 hs ?_
   refine an7 42 hs ?_
   refine an7 43 hs ?_
   refine an7 45 hs ?_
   (try simp only[Act.put,fe7,ff1,ff2])
   refine an7 47 hs ?_
   refine an7 48 hs ?_
   (try simp only[Act.put,fe7,ff1,ff2])
   refine dz9 11 [44] (fun w' hl K hK=> ?_) ?_
   ·have y0:=xs.step (hl.mono xs.below.size) (xs.holds.below hl)
    have h0:=y0.holds
    go_simp
    go_at_call 35
    refine(dZ7.out _ _ h0 (hle.trans ql0)).mono ?_
    rintro e wst ⟨_,Hst,rfl,y1,u,rfl,st⟩
    obtain⟨adt,cdt,rfl,_,_⟩:=st.form
    refine hK.out _ _ y1.below ?_
    have lq:=y1.le h0
    have xst:=y0.trans y1
    have hst:=xst.holds
    have qlt:=ql0.trans lq
    clear hK K hl y0 h0
    (try simp only[Act.put,fe7,ff1,ff2])
    refine an7 12 hst ?_
    refine an7 13 hst ?_
    refine av7 14 (fun w' h=>n2.out _ _ w' (hst.below h) st) ?_
    refine av7 18 (fun w' h=>cWt.out _ w' (hst.below h) (hle.trans qlt)) ?_
    refine an7 19 hst ?_
    (try simp only[Act.put,fe7,ff1,ff2])
    refine an7 20 hst ?_
    refine av7 21 (fun w' h=>n3.out w') ?_
    refine av7 24 (fun w' h=>cSp.out _ w' (hst.below h) (hle.trans qlt)) ?_
    refine an7 25 hst ?_
    refine an7 26 hst ?_
    (try simp only[Act.put,fe7,ff1,ff2])
    refine av7 27 (fun w' h=>n4.out w') ?_
    refine av7 30 (fun w' h=>cNw.out _ w' (hst.below h) (hle.trans qlt)) ?_
    refine an7 31 hst ?_
    refine an7 32 hst ?_
    refine av7 33 (fun w' h=>n5.out w') ?_
    (try simp only[Act.put,fe7,ff1,ff2])
    refine dz9 36 [44] (fun w' hl K hK=> ?_) ?_
    ·have y0:=xst.step (hl.mono xst.below.size) (xst.holds.below hl)
     have h0:=y0.holds
     go_simp
     go_at_call 39
     refine(ep7.out _ _ h0 (hle.trans qlt)).mono ?_
     rintro e gc6 ⟨_,gc7,rfl,y1,u,rfl,sv⟩
     obtain⟨adv,cdv,rfl,_,_⟩:=sv.form
     refine hK.out _ _ y1.below ?_
     have lq:=y1.le h0
     have eY1:=y0.trans y1
     have fi6:=eY1.holds
     have fP4:=qlt.trans lq
     replace st:=st.mono lq
     clear hK K hl y0 h0
     (try simp only[Act.put,fe7,ff1,ff2])
     refine an7 37 fi6 ?_
     refine an7 38 fi6 ?_
     refine av7 39 (fun w' h=>n6.out _ _ w' (fi6.below h) sv) ?_
     (try simp only[Act.put,fe7,ff1,ff2])
     refine dz9 44 [] (fun w' hl K hK=> ?_) bb9.nil
     have y0:=eY1.step (hl.mono eY1.below.size) (eY1.holds.below hl)
     have h0:=y0.holds
     go_simp
     obtain⟨gc0,lq,eG0,sp⟩:=eJ1 y0 hlo.out hhi.out
     refine hK.out _ _ (y0.ce8 _) ?_
     generalize World.alloc w' (.cells #[.int .i64 lo,.int .i64 hi] 3)=gc1 at*
     generalize(World.heap w').size=gp at*
     have eG3:=eG0.holds
     have fs8:=fP4.trans lq
     replace st:=st.mono lq
     replace sv:=sv.mono lq
     clear hK K hl y0 h0
     (try simp only[Act.put,fe7,ff1,ff2])
     refine av7 46 (fun w' h=>n7.out _ _ w' (eG3.below h) sp) ?_
     refine av7 49 (fun w' h=>cTs.out _ w' (eG3.below h) (hle.trans fs8)) ?_
     refine an7 50 eG3 ?_
     refine an7 51 eG3 ?_
     refine av7 52 (fun w' h=>n8.out w') ?_
     (try simp only[Act.put,fe7,ff1,ff2])
     refine dz9 53 [] (fun w' hl K hK=> ?_) bb9.nil
     have y0:=eG0.step (hl.mono eG0.below.size) (eG0.holds.below hl)
     obtain⟨am8,lq,y9,sQ⟩:=eE9 y0 hz9.out
     go_simp
     refine hK.out _ _ (y0.ce8 _) ?_
     (try simp only[Act.put,fe7,ff1,ff2])
     refine ek2 (fun w' hl=> ?_)
     have x9:=y9.step (hl.mono y9.below.size) (y9.holds.below hl)
     simp only[ff5,ff6]
     go_wp2_with fail
     go_meet
     exact⟨_,_,am8,rfl,x9,fs8.trans lq,sQ⟩
    refine bb9.cons (by simp only[ff0,fe9,fe8]<;>rfl) (fun w' hl K hK=> ?_) bb9.nil
    have y0:=xst.step (hl.mono xst.below.size) (xst.holds.below hl)
    have h0:=y0.holds
    go_simp
    obtain⟨gc8,lq,eY2,sp⟩:=eJ1 y0 hlo.out hhi.out
    refine hK.out _ _ (y0.ce8 _) ?_
    generalize World.alloc w' (.cells #[.int .i64 lo,.int .i64 hi] 3)=gc9 at*
    generalize(World.heap w').size=gp at*
    have hstp:=eY2.holds
    have fD5:=qlt.trans lq
    replace st:=st.mono lq
    clear hK K hl y0 h0
    (try simp only[Act.put,fe7,ff1,ff2])
    (try simp only[Act.put,fe7,ff1,ff2])
    refine dz9 36 [] (fun w' hl K hK=> ?_) bb9.nil
    have y0:=eY2.step (hl.mono eY2.below.size) (eY2.holds.below hl)
    have h0:=y0.holds
    go_simp
    go_at_call 39
    refine(ep7.out _ _ h0 (hle.trans fD5)).mono ?_
    rintro e gc2 ⟨_,gc3,rfl,y1,u,rfl,sv⟩
    obtain⟨adv,cdv,rfl,_,_⟩:=sv.form
    refine hK.out _ _ y1.below ?_
    have lq:=y1.le h0
    have eG4:=y0.trans y1
    have dA1:=eG4.holds
    have fs9:=fD5.trans lq
    replace st:=st.mono lq
    replace sp:=sp.mono lq
    clear hK K hl y0 h0
    (try simp only[Act.put,fe7,ff1,ff2])
    refine an7 37 dA1 ?_
    refine an7 38 dA1 ?_
    refine av7 39 (fun w' h=>n6.out _ _ w' (dA1.below h) sv) ?_
    refine av7 46 (fun w' h=>n7.out _ _ w' (dA1.below h) sp) ?_
    refine av7 49 (fun w' h=>cTs.out _ w' (dA1.below h) (hle.trans fs9)) ?_
    (try simp only[Act.put,fe7,ff1,ff2])
    refine an7 50 dA1 ?_
    refine an7 51 dA1 ?_
    refine av7 52 (fun w' h=>n8.out w') ?_
    (try simp only[Act.put,fe7,ff1,ff2])
    refine dz9 53 [] (fun w' hl K hK=> ?_) bb9.nil
    have y0:=eG4.step (hl.mono eG4.below.size) (eG4.holds.below hl)
    obtain⟨am8,lq,y9,sQ⟩:=eE9 y0 hz9.out
    go_simp
    refine hK.out _ _ (y0.ce8 _) ?_
    (try simp only[Act.put,fe7,ff1,ff2])
    refine ek2 (fun w' hl=> ?_)
    have x9:=y9.step (hl.mono y9.below.size) (y9.holds.below hl)
    simp only[ff5,ff6]
    go_wp2_with fail
    go_meet
    exact⟨_,_,am8,rfl,x9,fs9.trans lq,sQ⟩
   refine bb9.cons (by simp only[ff0,fe9,fe8]<;>rfl) (fun w' hl K hK=> ?_) bb9.nil
   have y0:=xs.step (hl.mono xs.below.size) (xs.holds.below hl)
   have h0:=y0.holds
   go_simp
   obtain⟨Hsp,lq,xsp,sp⟩:=eJ1 y0 hlo.out hhi.out
   refine hK.out _ _ (y0.ce8 _) ?_
   generalize World.alloc w' (.cells #[.int .i64 lo,.int .i64 hi] 3)=wsp at*
   generalize(World.heap w').size=gp at*
   have hsp:=xsp.holds
   have qlp:=ql0.trans lq
   clear hK K hl y0 h0
   (try simp only[Act.put,fe7,ff1,ff2])
   (try simp only[Act.put,fe7,ff1,ff2])
   refine dz9 11 [] (fun w' hl K hK=> ?_) bb9.nil
   have y0:=xsp.step (hl.mono xsp.below.size) (xsp.holds.below hl)
   have h0:=y0.holds
   go_simp
   go_at_call 35
   refine(dZ7.out _ _ h0 (hle.trans qlp)).mono ?_
   rintro e gd0 ⟨_,gd1,rfl,y1,u,rfl,st⟩
   obtain⟨adt,cdt,rfl,_,_⟩:=st.form
   refine hK.out _ _ y1.below ?_
   have lq:=y1.le h0
   have eY3:=y0.trans y1
   have cf0:=eY3.holds
   have eJ5:=qlp.trans lq
   replace sp:=sp.mono lq
   clear hK K hl y0 h0
   (try simp only[Act.put,fe7,ff1,ff2])
   refine an7 12 cf0 ?_
   refine an7 13 cf0 ?_
   refine av7 14 (fun w' h=>n2.out _ _ w' (cf0.below h) st) ?_
   refine av7 18 (fun w' h=>cWt.out _ w' (cf0.below h) (hle.trans eJ5)) ?_
   refine an7 19 cf0 ?_
   (try simp only[Act.put,fe7,ff1,ff2])
   refine an7 20 cf0 ?_
   refine av7 21 (fun w' h=>n3.out w') ?_
   refine av7 24 (fun w' h=>cSp.out _ w' (cf0.below h) (hle.trans eJ5)) ?_
   refine an7 25 cf0 ?_
   refine an7 26 cf0 ?_
   (try simp only[Act.put,fe7,ff1,ff2])
   refine av7 27 (fun w' h=>n4.out w') ?_
   refine av7 30 (fun w' h=>cNw.out _ w' (cf0.below h) (hle.trans eJ5)) ?_
   refine an7 31 cf0 ?_
   refine an7 32 cf0 ?_
   refine av7 33 (fun w' h=>n5.out w') ?_
   (try simp only[Act.put,fe7,ff1,ff2])
   refine dz9 36 [] (fun w' hl K hK=> ?_) bb9.nil
   have y0:=eY3.step (hl.mono eY3.below.size) (eY3.holds.below hl)
   have h0:=y0.holds
   go_simp
   go_at_call 39
   refine(ep7.out _ _ h0 (hle.trans eJ5)).mono ?_
   rintro e gc4 ⟨_,gc5,rfl,y1,u,rfl,sv⟩
   obtain⟨adv,cdv,rfl,_,_⟩:=sv.form
   refine hK.out _ _ y1.below ?_
   have lq:=y1.le h0
   have eG5:=y0.trans y1
   have dA4:=eG5.holds
   have ft1:=eJ5.trans lq
   replace sp:=sp.mono lq
   replace st:=st.mono lq
   clear hK K hl y0 h0
   (try simp only[Act.put,fe7,ff1,ff2])
   refine an7 37 dA4 ?_
   refine an7 38 dA4 ?_
   refine av7 39 (fun w' h=>n6.out _ _ w' (dA4.below h) sv) ?_
   refine av7 46 (fun w' h=>n7.out _ _ w' (dA4.below h) sp) ?_
   refine av7 49 (fun w' h=>cTs.out _ w' (dA4.below h) (hle.trans ft1)) ?_
   (try simp only[Act.put,fe7,ff1,ff2])
   refine an7 50 dA4 ?_
   refine an7 51 dA4 ?_
   refine av7 52 (fun w' h=>n8.out w') ?_
   (try simp only[Act.put,fe7,ff1,ff2])
   refine dz9 53 [] (fun w' hl K hK=> ?_) bb9.nil
   have y0:=eG5.step (hl.mono eG5.below.size) (eG5.holds.below hl)
   obtain⟨am8,lq,y9,sQ⟩:=eE9 y0 hz9.out
   go_simp
   refine hK.out _ _ (y0.ce8 _) ?_
   (try simp only[Act.put,fe7,ff1,ff2])
   refine ek2 (fun w' hl=> ?_)
   have x9:=y9.step (hl.mono y9.below.size) (y9.holds.below hl)
   simp only[ff5,ff6]
   go_wp2_with fail
   go_meet
   exact⟨_,_,am8,rfl,x9,ft1.trans lq,sQ⟩
  case rest=>
   obtain⟨pZ,cZ,H9,rfl,x9,l9,sZ⟩:=hcut
   have hw9:=x9.holds
   replace hc0:=lift l9 hc0
   replace hc1:=lift l9 hc1
   replace hc2:=lift l9 hc2
   replace hc3:=lift l9 hc3
   replace hc4:=lift l9 hc4
   replace O8:=lift l9 O8
   replace hc6:=lift l9 hc6
   replace O9:=lift l9 O9
   replace hle:=hle.trans l9
   have mk2:Hid True:=fe6 trivial
   clear cF dZ7 cWt cSp cNw ep7 cTs n0 n1 n2 n3 n4 n5 n6 n7 n8 s0 s1 x5 hw5 hlo hhi hz9 l9
   go_upto_region 11 with(first|(have hgd:=mk2;clear hgd;go_at_call 41;go_must (refine(cTa.out _).mono ?_);rintro e w10 ⟨rfl,eb8⟩;have x10:=x9.step (eb8.mono x9.below.size) (hw9.below eb8);clear mk2)|(go_at_call 41;go_must (refine(cTb.out _).mono ?_);rintro e w11 ⟨rfl,fi7⟩;have x11:=x10.step (fi7.mono x10.below.size) (x10.holds.below fi7);have dZ9:=x11.holds)|(go_at_call 23;obtain⟨HL,lL,xL,sL⟩:=eE9 x11 (by rw[←hLL.out];exact fun x hx=>fh1 (eY0.out x hx) (by decide));rw[←hLL.out]at sL;go_must (refine(cU.out _ _ _ xL.holds (hle.trans lL) sL).mono ?_);rintro e w12 ⟨_,H12,rfl,y12,va,vt5,vk,rfl,sA,⟨xm,xb,xt,xp,xq,xr,rfl,ek9⟩,sK⟩;obtain⟨pA,qA,rfl,_,_⟩:=sA.form;obtain⟨pK,qK,rfl,_,_⟩:=sK.form;obtain⟨p0,pq0,rfl,_,_⟩:=ek9.h.m.form;obtain⟨p1,pq1,rfl,_,_⟩:=ek9.h.b.form;obtain⟨p2,pq2,rfl,_,_⟩:=ek9.h.t.form;obtain⟨p3,pq3,rfl,_,_⟩:=ek9.s.m.form;obtain⟨p4,pq4,rfl,_,_⟩:=ek9.s.o.form;obtain⟨p5,pq5,rfl,_,_⟩:=ek9.s.a.form;have x12:=xL.trans y12))
   have rE:M9 w12.heap.size 32 (w12.alloc (.cells #[.slice p0 t.h.ms.length pq0,.slice p1 t.h.bs.length pq1,.slice p2 t.h.ts.length pq2,.int .i64 t.h.ch,.slice p3 t.s.mo.length pq3,.slice p4 t.s.wo.length pq4,.slice p5 t.s.wa.length pq5,.int .i64 t.s.fr] 32)) (.slice p0 t.h.ms.length pq0) (.slice p1 t.h.bs.length pq1) (.slice p2 t.h.ts.length pq2) (.int .i64 t.h.ch) (.slice p3 t.s.mo.length pq3) (.slice p4 t.s.wo.length pq4) (.slice p5 t.s.wa.length pq5) (.int .i64 t.s.fr):=⟨heap_alloc_new _ _⟩
   have x13:=x12.alloc (.cells #[.slice p0 t.h.ms.length pq0,.slice p1 t.h.bs.length pq1,.slice p2 t.h.ts.length pq2,.int .i64 t.h.ch,.slice p3 t.s.mo.length pq3,.slice p4 t.s.wo.length pq4,.slice p5 t.s.wa.length pq5,.int .i64 t.s.fr] 32)
   have hob:w.heap.size≤w12.heap.size:=x12.below.size
   have hoH:H12 w12.heap.size=none:=x12.holds.D6 (fh0 _)
   generalize w12.alloc (.cells #[.slice p0 t.h.ms.length pq0,.slice p1 t.h.bs.length pq1,.slice p2 t.h.ts.length pq2,.int .i64 t.h.ch,.slice p3 t.s.mo.length pq3,.slice p4 t.s.wo.length pq4,.slice p5 t.s.wa.length pq5,.int .i64 t.s.fr] 32)=w13 at*
   generalize w12.heap.size=E at*
   have l12:D8 H9 H12:=lL.trans (y12.le xL.holds)
   replace hc0:=lift l12 hc0
   replace hc1:=lift l12 hc1
   replace hc2:=lift l12 hc2
   replace hc3:=lift l12 hc3
   replace hc4:=lift l12 hc4
   replace O8:=lift l12 O8
   replace hc6:=lift l12 hc6
   replace O9:=lift l12 O9
   replace hle:=hle.trans l12
   have fp5:=x13.holds
   have sZ2:Sl H12 (.slice pZ 9 cZ) (aP4 t a b):=by rw[hWW.out];exact sZ.mono l12
   have cA:=fun(W:World) (hW:j4 H12 W)=>aU4 _ _ _ _ _ _ _ _ _ _ _ _ t H12 W hW ek9 (ht.out.mono hle)
   have cS:=fun(W:World) (hW:j4 H12 W)=>show Calls Tryz.prog 25 #[.slice pA (aP4 t a b).length qA,.slice pZ 9 cZ] W (I1 W (.bool true))from by simpa using bK5 _ _ (aP4 t a b) (aP4 t a b) H12 W hW sA sZ2
   replace cA:=fe6 cA
   replace cS:=fe6 cS
   obtain⟨e0,e1,e2,e3,e4,e5,e6,e7,ef⟩:=rE.cells
   have sL2:=sL.mono (y12.le xL.holds)
   generalize(Value.slice (some ⟨w11.heap.size,0,none⟩) 9 9)=vL at*
   obtain⟨pL,cL,rfl,_,_⟩:=sL2.form
   have h9:(av3 a b).length=9:=rfl
   clear x9 hw9 x10 x11 dZ9 x12 y12 xL sL l12 lL cU sZ sK eb8 fi7
   go_upto_region 14 with(first|(go_at_call 24;go_must (refine(cA.out _ fp5).mono ?_);rintro e w14 ⟨rfl,eY4⟩;have x14:=x13.step (eY4.mono x13.below.size) (fp5.below eY4);have eJ8:=x14.holds;have r14:=rE.below eY4 rE.lt)|(go_at_call 25;go_must (refine(cS.out _ eJ8).mono ?_);rintro e w15 ⟨rfl,bJ3⟩;have x15:=x14.step (bJ3.mono x14.below.size) (eJ8.below bJ3);have r15:=r14.below bJ3 r14.lt))
   have c15:J4 w H E 32 w15 H12 #[.slice p0 t.h.ms.length pq0,.slice p1 t.h.bs.length pq1,.slice p2 t.h.ts.length pq2,.int .i64 t.h.ch,.slice p3 t.s.mo.length pq3,.slice p4 t.s.wo.length pq4,.slice p5 t.s.wa.length pq5,.int .i64 t.s.fr]:=⟨x15,r15.at_,hob,hoH⟩
   clear x13 x14 eY4 bJ3 r14 r15 rE fp5 eJ8 x15 cA cS hoH hob e0 e1 e2 e3 e4 e5 e6 e7 ef
   go_wp2_with fail
   replace h9:=fe6 h9
   go_loopw [18,19] (fun v i wr=>∃k:Nat,k≤9∧i= .int .i64 (k:Int)∧Own H12 w.heap.size wr 9 v (aG0 a b k)∧J4 w H E 32 wr H12 #[.slice p0 t.h.ms.length pq0,.slice p1 t.h.bs.length pq1,.slice p2 t.h.ts.length pq2,.int .i64 t.h.ch,.slice p3 t.s.mo.length pq3,.slice p4 t.s.wo.length pq4,.slice p5 t.s.wa.length pq5,.int .i64 t.s.fr]) (fun _ i _=>9-(intOf i).toNat)
   case atStart=>exact⟨0,by omega,rfl,Own.nil _ _ _ _,c15⟩
   case round=>
    clear c15
    obtain⟨k,hk,rfl,oat,c⟩:=hrel
    have hwr:=c.x.holds
    replace h9:=h9.out
    by_cases hk9:k<9
    ·obtain⟨s,hsk⟩:=At.mk (show k<(av3 a b).length from hk9)
     obtain⟨bL,oL,cL',hse,hss,rs⟩:=sL2.str hsk
     cases hse
     have fP5:=eY0.out s hsk.mem
     have hk0:(0:Int)≤(k:Int):=by omega
     have hk1:(k:Int)<((av3 a b).length:Int):=by omega
     have cTk:=bL9 (k:Int) (by omega) (by omega)
     have hXz:(G6 (k:Int)).size≤4:=aC4 (by omega) (by omega)
     have hSu:=fd3 a b k
     rw[show(av3 a b).getD k ⟨#[]⟩=s by rw[ff3,show(av3 a b)[k]? =some s from hsk];rfl,←eX1]at hSu
     generalize G6 (k:Int)=XK at*
     have hq1:¬9223372036854775807<3+XK.size:=by omega
     have hq2:¬9223372036854775807<3+XK.size+1:=by omega
     have hq3:¬9223372036854775807<3+XK.size+1+s.size:=by omega
     have hrep:Enc.rep H12 (((⟨#[97,116,32]⟩:ByteArray)++XK++⟨#[32]⟩++s):ByteArray) [.string ((⟨#[97,116,32]⟩:ByteArray)++XK++⟨#[32]⟩++s)]:=⟨rfl,by rw[ByteArray.size_append,ByteArray.size_append,ByteArray.size_append];show 3+_+1+_≤_;omega⟩
     have aX9:Hid (((aG0 a b k).length+1)*Enc.M4 ByteArray≤140737488355328):=by show _*16≤_;rw[ek4];omega
     have aH8:Hid ((aG0 a b k).length+1≤9223372036854775807):=by show _≤_;rw[ek4];omega
     replace hrep:=fe6 hrep
     replace hSu:=fe6 hSu
     replace cTk:=fe6 cTk
     clear fP5 hXz hsk hss am0 h9
     go_upto_region 17 with fail
     refine U1 (S:=(fun w'=>j4 H12 w')) 12 (by kernel_rfl) (by kernel_rfl) ?_ (fun N9=> ?_)
     ·(try dsimp only)
      (first|assumption|exact j4.drew ‹_›|exact j4.alloc ‹_› _)
     simp only[ff8,fg1,fh6,fh7,fg9,fg8,fg3,ff9,fg2]
     have cD:=c.drew
     have oD:=oat.drew
     generalize World.drew wr=wD at*
     refine hdA 0 ?_
     refine hdA 1 ?_
     refine hdA 5 ?_
     refine hdA 6 ?_
     refine hdA 7 ?_
     (try simp only[Act.put,fe7,ff1,ff2])
     refine hdA 8 ?_
     (try simp only[Act.put,fe7,ff1,ff2])
     refine hdR 2 [] (fun K hK=> ?_) r9.nil
     (go_simp;go_at_call 41;go_must (refine(cTk.out _).mono ?_);rintro e w20 ⟨rfl,dB1⟩;have c20:=cD.below dB1;have o20:=oD.az2 dB1)
     refine hK.out _ _ (c20.x.holds) (fun I4=> ?_)
     clear hK K N9
     refine hdA 3 ?_
     refine hdA 4 ?_
     refine hdA 9 ?_
     (try simp only[Act.put,fe7,ff1,ff2])
     refine hdR 10 [] (fun K hK=> ?_) r9.nil
     go_simp
     have cell0:(World.alloc w20 (.cells #[.string ((⟨#[97,116,32]⟩:ByteArray)++XK++⟨#[32]⟩++s)] 9)).cell? ⟨(World.heap w20).size,0,none⟩=some (.string ((⟨#[97,116,32]⟩:ByteArray)++XK++⟨#[32]⟩++s)):=by rw[Lib.cell_of_heap (heap_alloc_new _ _)];rfl
     have c21:=c20.alloc (.cells #[.string ((⟨#[97,116,32]⟩:ByteArray)++XK++⟨#[32]⟩++s)] 9)
     have o21:=o20.alloc (.cells #[.string ((⟨#[97,116,32]⟩:ByteArray)++XK++⟨#[32]⟩++s)] 9)
     generalize World.alloc w20 (.cells #[.string ((⟨#[97,116,32]⟩:ByteArray)++XK++⟨#[32]⟩++s)] 9)=w21 at*
     generalize(World.heap w20).size=g21 at*
     refine hK.out _ _ (c21.x.holds) (fun F8=> ?_)
     clear hK K I4
     (try simp only[Act.put,fe7,ff1,ff2])
     refine hdR 11 [] (fun K hK=> ?_) r9.nil
     (refine eX7 (w0:=w) (H0:=H) bi0 rfl _ _ rfl c21.x rfl o21 rfl hrep.out (one_cell cell0) aX9.out aH8.out ?_;intro v7 w7 o7 x7 hw7 g7;have c22:=c21.bg8 g7 (o21.P8 c21.at_ (by decide)) (fun q e=>(o21.lt q e).1) o21.free)
     refine hK.out _ _ (c22.x.holds) (fun F9=> ?_)
     clear hK K F8
     (try simp only[Act.put,fe7,ff1,ff2])
     refine G9 (by kernel_rfl) ?_
     simp only[ff5,ff6]
     rw[←hSu.out]at o7
     go_wp2_with fail
     go_roundw
     case rel=>exact⟨k+1,hk9,by go_num,o7,c22⟩
     case measure=>simp[intOf];omega
    ·have e9:k=9:=by omega
     have hk1:¬(k:Int)<((av3 a b).length:Int):=by omega
     rw[e9]at oat
     obtain⟨HQ,cQ,lQ,sQ⟩:=c.close oat (fh0 _) (oat.P8 c.at_ (by decide))
     replace hc0:=lift lQ hc0
     replace hc1:=lift lQ hc1
     replace hc2:=lift lQ hc2
     replace hc3:=lift lQ hc3
     replace hc4:=lift lQ hc4
     replace O8:=lift lQ O8
     replace hc6:=lift lQ hc6
     replace O9:=lift lQ O9
     replace hle:=hle.trans lQ
     have sZq:=sZ2.mono lQ
     have hwQ:=cQ.x.holds
     clear e9 oat sZ2 sL2 c hwr lQ hLL eY0 h9
     go_upto_region 19 with(go_at_call 23;go_must (refine(am0.out _ _ _ hwQ hle sQ).mono ?_);rintro e w20 ⟨_,HR,rfl,y20,va8,vt8,vk8,rfl,sA8,⟨xm,xb,xt,xp,xq,xr,rfl,dY6⟩,sK8⟩;obtain⟨pB,qB,rfl,_,_⟩:=sA8.form;obtain⟨pM,qM,rfl,_,_⟩:=sK8.form;obtain⟨r0,rq0,rfl,_,_⟩:=dY6.h.m.form;obtain⟨r1,rq1,rfl,_,_⟩:=dY6.h.b.form;obtain⟨r2,rq2,rfl,_,_⟩:=dY6.h.t.form;obtain⟨r3,rq3,rfl,_,_⟩:=dY6.s.m.form;obtain⟨r4,rq4,rfl,_,_⟩:=dY6.s.o.form;obtain⟨r5,rq5,rfl,_,_⟩:=dY6.s.a.form;have c20:=cQ.ext y20;have r20:M9 E 32 w20 (.slice p0 t.h.ms.length pq0) (.slice p1 t.h.bs.length pq1) (.slice p2 t.h.ts.length pq2) (.int .i64 t.h.ch) (.slice p3 t.s.mo.length pq3) (.slice p4 t.s.wo.length pq4) (.slice p5 t.s.wa.length pq5) (.int .i64 t.s.fr):=⟨c20.at_⟩;obtain⟨e0,e1,e2,e3,e4,e5,e6,e7,ef⟩:=r20.cells)
     have rz:=r20.set (.slice r0 t.h.ms.length rq0) (.slice r1 t.h.bs.length rq1) (.slice r2 t.h.ts.length rq2) (.int .i64 t.h.ch) (.slice r3 t.s.mo.length rq3) (.slice r4 t.s.wo.length rq4) (.slice r5 t.s.wa.length rq5) (.int .i64 t.s.fr)
     have xw:=Ext.aC3 c20.x c20.ob c20.oH (.slice r0 t.h.ms.length rq0) (.slice r1 t.h.bs.length rq1) (.slice r2 t.h.ts.length rq2) (.int .i64 t.h.ch) (.slice r3 t.s.mo.length rq3) (.slice r4 t.s.wo.length rq4) (.slice r5 t.s.wa.length rq5) (.int .i64 t.s.fr)
     generalize(World.setCell (World.setCell (World.setCell (World.setCell (World.setCell (World.setCell (World.setCell (World.setCell w20 ⟨E,0,none⟩ (.slice r0 t.h.ms.length rq0)) ⟨E,1,none⟩ (.slice r1 t.h.bs.length rq1)) ⟨E,2,none⟩ (.slice r2 t.h.ts.length rq2)) ⟨E,3,none⟩ (.int .i64 t.h.ch)) ⟨E,4,none⟩ (.slice r3 t.s.mo.length rq3)) ⟨E,5,none⟩ (.slice r4 t.s.wo.length rq4)) ⟨E,6,none⟩ (.slice r5 t.s.wa.length rq5)) ⟨E,7,none⟩ (.int .i64 t.s.fr))=wS at*
     obtain⟨g0,g1,g2,g3,g4,g5,g6,g7,gf⟩:=rz.cells
     have hwS:=xw.holds
     have lR:=y20.le hwQ
     replace hc0:=lift lR hc0
     replace hc1:=lift lR hc1
     replace hc2:=lift lR hc2
     replace hc3:=lift lR hc3
     replace hc4:=lift lR hc4
     replace O8:=lift lR O8
     replace hc6:=lift lR hc6
     replace O9:=lift lR O9
     replace hle:=hle.trans lR
     have sZr:=sZq.mono lR
     have cA:=fun(W:World) (hW:j4 HR W)=>aU4 _ _ _ _ _ _ _ _ _ _ _ _ t HR W hW dY6 (ht.out.mono hle)
     have cS:=fun(W:World) (hW:j4 HR W)=>show Calls Tryz.prog 25 #[.slice pB (aP4 t a b).length qB,.slice pZ 9 cZ] W (I1 W (.bool true))from by simpa using bK5 _ _ (aP4 t a b) (aP4 t a b) HR W hW sA8 sZr
     replace cA:=fe6 cA
     replace cS:=fe6 cS
     clear e0 e1 e2 e3 e4 e5 e6 e7 ef r20 c20 cQ sQ y20 hwQ sZq dY6 sA8 sK8 am0 lR rz
     go_wp2_with(first|(go_at_call 24;go_must (refine(cA.out _ hwS).mono ?_);rintro e w24 ⟨rfl,fF5⟩;have x24:=xw.step (fF5.mono xw.below.size) (hwS.below fF5);have fF6:=x24.holds)|(go_at_call 25;go_must (refine(cS.out _ fF6).mono ?_);rintro e w25 ⟨rfl,fF7⟩;have x25:=x24.step (fF7.mono x24.below.size) (fF6.below fF7);have gd2:=x25.holds)|(go_at_call 18;(refine(cW.out _ _ x25.holds hle).mono ?_;rintro e wz ⟨rfl,hbz⟩;have xz:=x25.step (hbz.mono x25.below.size) (x25.holds.below hbz))))
     go_ret
     exact⟨rfl,xz.below⟩
end
end Go.Proofs.YtbliehinagkldaaGreatDoor
