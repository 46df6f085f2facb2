/- Lemmas and the walk of the law OverseerAt (names and blanks made short by a program). -/
import Derived.Test.YtbliehinagkldaaGreatDoorG19
set_option linter.all false
set_option maxRecDepth 100000
set_option maxHeartbeats 16000000
open Go.Lib renaming hid → fe6
open List renaming setIfInBounds_toArray → fe7, getElem?_cons_zero → fe8, getElem?_cons_succ → fe9, getElem?_toArray → ff0, set_cons_zero → ff1, set_cons_succ → ff2, getD_eq_getElem?_getD → ff3, length_append → ff4, drop_succ_cons → ff5, drop_zero → ff6, length_singleton → ff7, length_cons → ff8, nil_append → ff9, length_nil → fg1, cons_append → fg2, push_toArray → fg3, length_map → fg5, length_take → fg6
open Array renaming replicate_zero → fg8, replicate_succ → fg9
open Nat renaming le_refl → fh0, le_trans → fh1, zero_le → fh3, reduceAdd → fh6, reduceSub → fh7
open Int renaming toNat_natCast → fh8
namespace Go.Proofs.YtbliehinagkldaaGreatDoor
open Go.Proofs.YtbliehinagkldaaGreatDoor renaming u6 → uI6, u7 → uI7
section
open Go.RowKit
theorem Sl.take {α:Type} [Enc α] {H:j5} {a:Option Addr} {n c:Nat} {xs:List α} (h:Sl H (.slice a n c) xs) {k:Nat} (hk:k≤xs.length):Sl H (.slice a k c) (xs.take k):=by
 obtain⟨a',c',e,h1,h2,h3,h4⟩:=h
 cases e
 have hlen:(xs.take k).length=k:=by simp;omega
 refine⟨a,c,by rw[hlen],by omega,h2,fh1 (Nat.mul_le_mul_right _ (by omega)) h3, ?_⟩
 rcases h4 with h4|⟨b,o,cur,e,fr,rfl,hb,ho,hr⟩
 ·subst h4;simp
 ·refine .inr ⟨b,o,cur,e,fr,rfl,hb, ?_, ?_⟩
  ·rw[hlen];exact fh1 (Nat.add_le_add_left (Nat.mul_le_mul_right _ hk) o) ho
  ·rw[hlen]
   have e1:xs=xs.take k++xs.drop k:=(List.take_append_drop k xs).symm
   rw[e1]at hr
   obtain⟨c1,c2,e2,hr1,_⟩:=hr.split
   have hl1:=hr1.len
   rw[hlen]at hl1
   have:(cur.toList.drop o).take (k*Enc.sz α)=c1:=by
    have h5:=congrArg (List.take (k*Enc.sz α)) e2
    rw[←hl1,List.take_left,hl1,List.take_take,Nat.min_eq_left (by rw[←e1];exact Nat.mul_le_mul_right _ hk)]at h5
    exact h5
   rw[this];exact hr1
end
section
open Go.RowKit
theorem hdA {P:Program} {md:Region.Mode} {ops:Array Oper} {Q:Exit→Act→World→Prop} {S:World→Prop} {n g:Nat} {tl:List Oper} (i:Nat) {oi:Oper} {v:Value} {f:Nat} {listed:Array Bool} {a:Act} {w:World} (h:hdI P md ops Q S n g tl f (listed.setIfInBounds i true) (a.put oi.dst v) w)
 (hi:ops[i]? =some oi:=by simp only[ff0,fe9,fe8]<;>rfl) (hb:(Region.noSelect ops&&Region.free md ops listed i&&((Region.ready md ops listed).contains i&&decide (i<n)))=true:=by kernel_rfl)
 (hQ:∀c a w,Q (.panic c) (a.put oi.dst v) w→Q (.panic c) a w:=by exact fun _ _ _ h=>h) (hg:Region.wanted oi (yielded ops a.tmps)=true:=by rfl) (hy:∀w,S w→(execOp a.eval oi).run P w= .ok (.value v) w:=by intro w hSw;(try dsimp only at hSw);go_simp;(try(with_reducible rfl))) (hS:S w:=by assumption):hdI P md ops Q S n g tl (f+1) listed a w:=D9 i hi hb hQ hg hy hS h
theorem hdR {P:Program} {md:Region.Mode} {ops:Array Oper} {Q:Exit→Act→World→Prop} {S:World→Prop} {n g:Nat} {tl:List Oper} (i:Nat) {o:Oper} (rs:List Nat) {f:Nat} {listed:Array Bool} {a:Act} {w:World}
 (h:∀K':Act→World→Prop,Shut (∀a w,S w→(S w→hdI P md ops Q S n g tl f (listed.setIfInBounds i true) a w)→K' a w)→if Region.wanted o (yielded ops a.tmps)=true then Oper.wp P o a w K' Q else K' (a.put o.dst undef) w)
 (hs:r9 P md ops Q S n g tl f listed a w rs) (hr:Region.ready md ops listed=i::rs:=by kernel_rfl) (hne:(!(i::rs).isEmpty&&(i::rs).all (fun i=>decide (i<n)))=true:=by kernel_rfl) (ho:ops[i]? =some o:=by simp only[ff0,fe9,fe8]<;>rfl):hdI P md ops Q S n g tl (f+1) listed a w:=uI6 hr hne (r9.cons ho h hs)
end
section
open Go.RowKit Go.ChangeShapes Go.WideShapes Go.Deep
theorem aJ9 (w:World):j4 (ad6 w) w:=⟨fun _ _ e=>e⟩
end
section
theorem ay0 (a b:ByteArray):C9 (J8 (C8 a++32::C8 b))=C9 a++C9 b:=by
 unfold C9
 rw[show C8 (J8 (C8 a++32::C8 b))=C8 a++32::C8 b from rfl,bi7,List.map_append]
theorem ap5 {a:ByteArray} (h:∀b∈C8 a,b≠32):C9 a=[a]:=by
 unfold C9
 rw[aF1 h]
 rfl
theorem ca0 (a:ByteArray):C9 a≠[]:=fun e=>aB3 (C8 a) (by unfold C9 at e;exact List.map_eq_nil_iff.1 e)
theorem da9 (n:Int):∀b∈Lib.itoa n,b≠32:=fun b hb e=>by
 have key:∀u,b∈Lib.decDigits u→False:=fun u hu=>by
  have:=ah8.1 (List.all_eq_true.1 (aU5 u) b hu)
  rw[e]at this
  have h32:(32:UInt8).toNat=32:=rfl
  omega
 unfold Lib.itoa at hb
 split at hb
 ·rcases List.mem_cons.1 hb with h|h
  ·rw[e]at h;cases h
  ·exact key _ h
 ·exact key _ hb
end
section
theorem do1 (s:ByteArray):C9 s≠[]:=ca0 s
end
section
theorem db2 (u:Nat):ar2 (Lib.decDigits u)=Lib.decDigits u:=by
 have h:=cm2 u
 unfold ar2
 split
 ·rename_i r hr;rw[hr]at h;exact absurd rfl h
 ·rfl
theorem db3 {n:Int} (h1: -1000000<n) (h2:n<1000000):O5 (G6 n)=some n:=by
 refine cm3 (w:=G6 n) (v:=n) rfl ?_
 show(ar2 (Lib.itoa n)).length≤6
 unfold Lib.itoa
 split
 ·exact aI6 _ 5 (by omega)
 ·rw[db2];exact aI6 _ 5 (by omega)
theorem db4 {l:List F7} {x:F7} (hk:x.kind≠1) (he:(x.kind=5∨x.kind=6)→at5 l x.of=false):aa4 (l++[x])=aa4 l++[E9]:=by
 rw[aD5]
 unfold ak4
 rw[if_neg hk,if_neg]
 rintro⟨h1,h2⟩
 rw[he h1]at h2;cases h2
theorem dH2 {l:List F7} {x:F7} (hk:x.kind=1):aa4 (l++[x])=aa4 l++[x]:=by
 rw[aD5]
 unfold ak4
 rw[if_pos hk]
def cm6 (x:F7):F7:=if x.kind=1 then x else E9
theorem aI7:∀l:List F7,(∀x∈l,x.kind≠5∧x.kind≠6)→aa4 l=l.map cm6:=ad1 (fun _=>rfl) fun l x ih h=>by
 have hx:=h x (by simp)
 rw[List.map_append,List.map_singleton,←ih fun y hy=>h y (by simp[hy])]
 by_cases hk:x.kind=1
 ·rw[dH2 hk];unfold cm6;rw[if_pos hk]
 ·rw[db4 hk (by omega)];unfold cm6;rw[if_neg hk]
end
section
theorem cF6 (t:D5) (l:List ByteArray):(M6 t l).ans.length=l.length:=(ax9 t l).1
def atB (n:Int) (q:ByteArray):ByteArray:=J8 ([97,116,32]++C8 (G6 n)++[32]++C8 q)
theorem do7 (n:Int) (q:ByteArray):C9 (atB n q)=wAt::G6 n::C9 q:=by
 have h:atB n q=J8 (C8 wAt++32::C8 (J8 (C8 (G6 n)++32::C8 q))):=by
  unfold atB
  show J8 _=J8 ([97,116]++32::(C8 (G6 n)++32::C8 q))
  simp
 rw[h,ay0,ay0,ap5 (a:=wAt) (by decide),ap5 (a:=G6 n) (da9 n)]
 rfl
theorem ca4:∀{p:List ByteArray} {ns:List Int},T9 p=some ns→ns.length=p.length
 |[],ns,h=>by cases h;rfl
 |w::p,ns,h=>by
  unfold T9 at h
  split at h
  ·rename_i n r h1 h2
   cases h
   rw[ff8,ff8,ca4 h2]
  ·cases h
theorem dH5 (n:Int) (q:List ByteArray):A7 (wAt::G6 n::q)=E9:=by
 unfold A7
 split
 ·rfl
 ·rename_i ns e
  have hl:=ca4 e
  have e1:U3 wAt= -1:=by decide
  have e2:Y3 wAt= -1:=by decide
  rw[List.headD_cons,e1,e2,if_neg (by omega),if_neg (by omega)]
theorem dH6 {n:Int} {q:ByteArray} (h1: -1000000<n) (h2:n<1000000) (hq:(A8 q).kind=2):A8 (atB n q)={A8 q with kind:=3,of:=n}:=by
 have e1:A8 q=A7 (C9 q):=bH4 (.inr hq)
 rw[e1]at hq ⊢
 unfold A8
 rw[do7]
 have h0:=dH5 n (C9 q)
 unfold ac8
 rw[if_neg (by rw[h0];decide)]
 simp only[db3 h1 h2]
 rw[if_neg (by decide),if_pos trivial,if_pos ⟨do1 q,hq⟩]
theorem db8 {t:D5} {l now:List F7} {x:F7} (h:x.kind=2):ap9 t l now x=U6 (Z5 t now) x.word x.nums:=by unfold ap9;rw[if_neg (by omega),if_neg (by omega),if_pos h]
theorem ca5 {t:D5} {l now:List F7} {x:F7} (h:x.kind=3):ap9 t l now x=if 0≤x.of∧x.of≤(now.length:Int)then U6 (Z5 t (now.take x.of.toNat)) x.word x.nums else at0:=by
 unfold ap9;rw[if_neg (by omega),if_neg (by omega),if_neg (by omega),if_pos h]
theorem dO0 {t:D5} {l:List ByteArray} {q:ByteArray} {n:Int} (v:F6 t=true) (hl:l.length<24) (hq:(A8 q).kind=2) (h0:0≤n) (h99:n≤99) (hc:∀s∈l,(A8 s).kind≠5∧(A8 s).kind≠6):
 (Y1 t (l++[atB n q])).getD l.length ⟨#[]⟩=if(l.length:Int)<n then at0 else(Y1 t (l.take n.toNat++[q])).getD n.toNat ⟨#[]⟩:=by
 have hno:∀x∈l.map A8,x.kind≠5∧x.kind≠6:=fun x hx=>by
  obtain⟨s,hs,rfl⟩:=List.mem_map.1 hx
  exact hc s hs
 have hget:∀(m:List ByteArray) (u:ByteArray),(M6 t (m++[u])).ans.getD m.length ⟨#[]⟩=ap9 t (m.map A8) (aa4 (m.map A8)) (A8 u):=fun m u=>by
  rw[bj1,ff3,List.getElem?_append_right (by rw[cF6];exact fh0 _),cF6,Nat.sub_self];rfl
 rw[ap6 v (by simp;omega),hget,dH6 (by omega) (by omega) hq]
 have hlen:((aa4 (l.map A8)).length:Int)=(l.length:Int):=by rw[bt8,fg5]
 split
 ·rw[ca5 rfl]
  exact if_neg (fun h:0≤n∧n≤((aa4 (l.map A8)).length:Int)=>by omega)
 ·rename_i hle
  have hnl:n.toNat≤l.length:=by omega
  have htk:(l.take n.toNat).length=n.toNat:=by rw[fg6];omega
  have hg:=hget (l.take n.toNat) q
  rw[htk]at hg
  rw[ap6 v (by simp;omega),hg]
  rw[ca5 rfl,db8 hq]
  show(if 0≤n∧n≤((aa4 (l.map A8)).length:Int)then U6 (Z5 t ((aa4 (l.map A8)).take n.toNat)) (A8 q).word (A8 q).nums else at0)=_
  rw[if_pos ⟨h0,by omega⟩,aI7 _ hno,List.map_take,aI7 _ fun x hx=>hno x (List.mem_of_mem_take hx),List.map_take]
end
section
open Go.RowKit Go.ChangeShapes Go.WideShapes Go.Deep Go.Joins
section
variable {H:Type} {enc:TypeId × Value→H} {W:World} {sp:Nat→Bool} {hd:Bool}
theorem cO4:Tryz.prog.cellsOf 3=1:=by kernel_rfl
theorem cO5:Tryz.prog.cellsOf 9=1:=by kernel_rfl
theorem dI6 {α:Type} {cs:Array α} (h:cs.size=2):∃a b,cs= #[a,b]:=by
 obtain⟨l⟩:=cs
 match l,h with
 |[a,b],_=>exact⟨a,b,rfl⟩
theorem co0 {r:Reach} {b0:Nat} {v:Value} {d:DataW H} {p:List MemPlace} (hv:Value.okWide Tryz.prog W r b0 78 v) (h:DataW.Trod enc Tryz.prog W 0 sp hd 78 v d p) (hw:∀k∈d.weights Tryz.prog 78,k≤reachBytes):
 ∃(q:ByteArray) (n:Int),v= .agg #[.string q,.int .i64 n]∧q.size≤140737488355328∧K8 n:=by
 obtain⟨cs,rfl,hsz⟩:=okWide_struct Tryz.underlying78 hv
 obtain⟨c0,c1,rfl⟩:=dI6 (hsz.trans (by kernel_rfl))
 obtain⟨fuel,hf⟩:=h
 obtain⟨y0,y1,n,ex,_,h0,h1⟩:=trod_struct2 Tryz.underlying78 hf
 simp only[Value.cells,cO5,cO4,ff6,ff5,List.take_succ_cons,List.take_zero]at h0 h1
 obtain⟨rfl,-⟩:=Prod.mk.inj ex
 simp only[DataW.weights,Tryz.underlying78,List.map_cons,List.map_nil,DataW.weightsEach,List.mem_append,List.append_nil]at hw
 obtain⟨q,hq,hqz⟩:=cG0 _ _ _ h0 (fun k hk=>hw k (by simp[hk]))
 obtain⟨k1,e1,_,w1⟩:=DataW.trod_int Tryz.underlying3 h1
 simp at hq e1
 subst hq;subst e1
 exact⟨q,k1,rfl,hqz,ah7 w1⟩
end
end
section
open Go.RowKit
attribute [local go_sem] j4.drew j4.alloc j4.drewN WB.holds Oper.semAt_some
def eA5 (xs ys:List ByteArray):Nat→List ByteArray
 |0=>[]
 |1=>xs
 |_=>xs++ys
theorem bG7 (va vb:Value) (xs ys:List ByteArray) (hx:xs.length≤2000000) (hy:ys.length≤2000000) (H:j5) (w:World) (hw:j4 H w) (h1:Sl H va xs) (h2:Sl H vb ys) (b:Nat)
 (d0:∀W,j4 H W→W.cell? ⟨b,0,none⟩=some va) (d1:∀W,j4 H W→W.cell? ⟨b,1,none⟩=some vb):
 Calls Tryz.prog 19 #[.slice (some ⟨b,0,none⟩) 2 2] w (Post w H fun u H'=>Sl H' u (xs++ys)):=by
 obtain⟨a1,c1,rfl,_,_⟩:=h1.form
 obtain⟨a2,c2,rfl,_,_⟩:=h2.form
 have aX9:Hid ((([]:List ByteArray).length+xs.length)*Enc.M4 ByteArray≤140737488355328):=by show _≤_;simp only[Enc.M4,fg1];omega
 have aH8:Hid (([]:List ByteArray).length+xs.length≤9223372036854775807):=by show _≤_;simp only[fg1];omega
 have eA6:Hid ((xs.length+ys.length)*Enc.M4 ByteArray≤140737488355328):=by show _≤_;simp only[Enc.M4];omega
 have eA7:Hid (xs.length+ys.length≤9223372036854775807):=by show _≤_;omega
 replace hx:=fe6 hx
 replace hy:=fe6 hy
 go_enter Tryz.func19,Tryz.ntmps19
 go_wp2_with fail
 go_loopw [3,4] (fun v i wr=>∃(k:Nat),k≤2∧i= .int .i64 (k:Int)∧Own H w.heap.size wr 9 v (eA5 xs ys k)∧Ext w H wr H) (fun v i _=>2-(intOf i).toNat)
 case atStart=>exact⟨0,by omega,rfl,Own.nil _ _ _ _,Ext.refl hw⟩
 case round=>
  obtain⟨k,hk,rfl,o,x⟩:=hrel
  have hwr:=x.holds
  match k,hk,o with
  |0,_,o=>
   replace o:Own H w.heap.size wr 9 _ ([]:List ByteArray):=o
   go_wp2_with(at_builtin;go_must (refine aj2 (w0:=w) (H0:=H) bi0 rfl _ _ rfl x rfl o rfl h1 aX9.out aH8.out ?_);intro v3 w3 o3 x3 hw3 g3;rw[ff9]at o3)
   go_roundw
   case rel=>exact⟨1,by omega,rfl,o3,x3⟩
   case measure=>simp[intOf]
  |1,_,o=>
   replace o:Own H w.heap.size wr 9 _ xs:=o
   go_wp2_with(at_builtin;go_must (refine aj2 (w0:=w) (H0:=H) bi0 rfl _ _ rfl x rfl o rfl h2 eA6.out eA7.out ?_);intro v3 w3 o3 x3 hw3 g3)
   go_roundw
   case rel=>exact⟨2,by omega,rfl,o3,x3⟩
   case measure=>simp[intOf]
  |2,_,o=>
   replace o:Own H w.heap.size wr 9 _ (xs++ys):=o
   obtain⟨H4,x5,l5,s5,_⟩:=o.close x
   go_wp2_with fail
   go_ret
   exact⟨_,H4,rfl,x5,s5⟩
end
section
open Go.RowKit
theorem cw6 {H:j5} {a:Option Addr} {xs:List ByteArray} {c N:Nat} (hN:N≤xs.length) (h:Sl H (.slice a xs.length c) xs):
 ∃a',(∀W,(Instr.sliceAt 33 (.slice a xs.length c) none (some (.int .i64 (N:Int))) none).run Tryz.prog W= .ok (.slice a' N c) W)∧Sl H (.slice a' N c) (xs.take N):=by
 obtain⟨a0,c0,e,hc,_⟩:=h.form
 cases e
 refine⟨a,fun W=> ?_,h.take hN⟩
 have h1:(0:Int)≤(N:Int):=by omega
 have h2:(N:Int)≤(c:Int):=by omega
 have h3:(if c=0 then a else a.map (·.add (0*1)))=a:=by
  split
  ·rfl
  ·cases a with
   |none=>rfl
   |some b=>simp[Addr.add]
 simp[Instr.sliceAt,Instr.slice,Instr.sliceBounds,Instr.sliceBound,go_sem,h1]
 intro hh
 omega
def eh9 (H:j5) (C:Nat) (t:D5):Prop:=∃p0 q0 p1 q1 p2 q2 p3 q3 p4 q4 p5 q5,H C=some (.cells #[.slice p0 t.h.ms.length q0,.slice p1 t.h.bs.length q1,.slice p2 t.h.ts.length q2,.int .i64 t.h.ch,.slice p3 t.s.mo.length q3,.slice p4 t.s.wo.length q4,.slice p5 t.s.wa.length q5,.int .i64 t.s.fr] 32 (0,0))∧
 Twn H (.slice p0 t.h.ms.length q0) (.slice p1 t.h.bs.length q1) (.slice p2 t.h.ts.length q2) (.slice p3 t.s.mo.length q3) (.slice p4 t.s.wo.length q4) (.slice p5 t.s.wa.length q5) t
def dl0 (w0:World) (H0 Hs:j5) (A K:List ByteArray) (t:D5) (v1 v2 v3 v4:Value) (w:World):Prop:=∃pa qa pk qk C Hx,v1= .slice pa A.length qa∧v2= .pointer (some ⟨C,0,none⟩)∧v3= .slice pk K.length qk∧v4= .bool true∧
 Ext w0 H0 w Hx∧D8 Hs Hx∧Sl Hx (.slice pa A.length qa) A∧Sl Hx (.slice pk K.length qk) K∧eh9 Hx C t
theorem aP9 {w0 w:World} {H0 Hs H5:j5} {A K:List ByteArray} {T:D5} {pa pk p0 p1 p2 p3 p4 p5:Option Addr} {qa qk q0 q1 q2 q3 q4 q5 C:Nat} (x:Ext w0 H0 w H5)
 (hat:w.heap[C]? =some (.cells #[.slice p0 T.h.ms.length q0,.slice p1 T.h.bs.length q1,.slice p2 T.h.ts.length q2,.int .i64 T.h.ch,.slice p3 T.s.mo.length q3,.slice p4 T.s.wo.length q4,.slice p5 T.s.wa.length q5,.int .i64 T.s.fr] 32 (0,0))) (hob:w0.heap.size≤C) (hn:H5 C=none) (le:D8 Hs H5)
 (sA:Sl H5 (.slice pa A.length qa) A) (sK:Sl H5 (.slice pk K.length qk) K) (tw:Twn H5 (.slice p0 T.h.ms.length q0) (.slice p1 T.h.bs.length q1) (.slice p2 T.h.ts.length q2) (.slice p3 T.s.mo.length q3) (.slice p4 T.s.wo.length q4) (.slice p5 T.s.wa.length q5) T):
 dl0 w0 H0 Hs A K T (.slice pa A.length qa) (.pointer (some ⟨C,0,none⟩)) (.slice pk K.length qk) (.bool true) w:=
 have l:=j5.L9 hn _
 ⟨pa,qa,pk,qk,C,_,rfl,rfl,rfl,rfl,x.freeze hob hat,le.trans l,sA.mono l,sK.mono l,p0,q0,p1,q1,p2,q2,p3,q3,p4,q4,p5,q5,j5.G7 _ _ _,tw.mono l⟩
theorem bn8 {w0 w:World} {H0 H:j5} (hx:Ext w0 H0 w H) (a b:Value) (T:TypeId):
 ∃H2,D8 H H2∧Ext w0 H0 (w.alloc (.cells #[a,b] T)) H2∧(∀W,j4 H2 W→W.cell? ⟨w.heap.size,0,none⟩=some a)∧∀W,j4 H2 W→W.cell? ⟨w.heap.size,1,none⟩=some b:=by
 have hn:=hx.holds.D6 (fh0 w.heap.size)
 have hp:=j5.G7 H w.heap.size (.cells #[a,b] T (0,0))
 exact⟨_,j5.L9 hn _,(hx.alloc _).freeze hx.below.size (heap_alloc_new w _),fun W hW=>(D7 hp hW 0).trans rfl,fun W hW=>(D7 hp hW 1).trans rfl⟩
abbrev aC3 (w:World) (C:Nat) (a b c d e f g h:Value):World:=(((((((w.setCell ⟨C,0,none⟩ a).setCell ⟨C,1,none⟩ b).setCell ⟨C,2,none⟩ c).setCell ⟨C,3,none⟩ d).setCell ⟨C,4,none⟩ e).setCell ⟨C,5,none⟩ f).setCell ⟨C,6,none⟩ g).setCell ⟨C,7,none⟩ h
theorem aS0 {w0 w:World} {H0 H:j5} {C:Nat} (c:J4 w0 H0 C 32 w H Z8) (T:D5) (p0:Option Addr) (q0:Nat) (p1:Option Addr) (q1:Nat) (p2:Option Addr) (q2:Nat) (p3:Option Addr) (q3:Nat) (p4:Option Addr) (q4:Nat) (p5:Option Addr) (q5:Nat):
 w.cell? ⟨C,0,none⟩=some (.slice none 0 0)∧w.cell? ⟨C,1,none⟩=some (.slice none 0 0)∧w.cell? ⟨C,2,none⟩=some (.slice none 0 0)∧w.cell? ⟨C,3,none⟩=some (.int .i64 0)∧w.cell? ⟨C,4,none⟩=some (.slice none 0 0)∧w.cell? ⟨C,5,none⟩=some (.slice none 0 0)∧w.cell? ⟨C,6,none⟩=some (.slice none 0 0)∧w.cell? ⟨C,7,none⟩=some (.int .i64 0)∧(∀i,w.frozen? ⟨C,i,none⟩=false)∧M9 C 32 (aC3 w C (.slice p0 T.h.ms.length q0) (.slice p1 T.h.bs.length q1) (.slice p2 T.h.ts.length q2) (.int .i64 T.h.ch) (.slice p3 T.s.mo.length q3) (.slice p4 T.s.wo.length q4) (.slice p5 T.s.wa.length q5) (.int .i64 T.s.fr)) (.slice p0 T.h.ms.length q0) (.slice p1 T.h.bs.length q1) (.slice p2 T.h.ts.length q2) (.int .i64 T.h.ch) (.slice p3 T.s.mo.length q3) (.slice p4 T.s.wo.length q4) (.slice p5 T.s.wa.length q5) (.int .i64 T.s.fr)∧Ext w0 H0 (aC3 w C (.slice p0 T.h.ms.length q0) (.slice p1 T.h.bs.length q1) (.slice p2 T.h.ts.length q2) (.int .i64 T.h.ch) (.slice p3 T.s.mo.length q3) (.slice p4 T.s.wo.length q4) (.slice p5 T.s.wa.length q5) (.int .i64 T.s.fr)) H:=by
 have r:M9 C 32 w (.slice none 0 0) (.slice none 0 0) (.slice none 0 0) (.int .i64 0) (.slice none 0 0) (.slice none 0 0) (.slice none 0 0) (.int .i64 0):=⟨c.at_⟩
 obtain⟨e0,e1,e2,e3,e4,e5,e6,e7,ef⟩:=r.cells
 exact⟨e0,e1,e2,e3,e4,e5,e6,e7,ef,r.set _ _ _ _ _ _ _ _,Ext.aC3 c.x c.ob c.oH _ _ _ _ _ _ _ _⟩
theorem ax0 {H:j5} {u:Value} {T:D5} (h:bt6 H u T):∃p0 q0 p1 q1 p2 q2 p3 q3 p4 q4 p5 q5,u=ah0 (.slice p0 T.h.ms.length q0) (.slice p1 T.h.bs.length q1) (.slice p2 T.h.ts.length q2) (.slice p3 T.s.mo.length q3) (.slice p4 T.s.wo.length q4) (.slice p5 T.s.wa.length q5) T∧
 Twn H (.slice p0 T.h.ms.length q0) (.slice p1 T.h.bs.length q1) (.slice p2 T.h.ts.length q2) (.slice p3 T.s.mo.length q3) (.slice p4 T.s.wo.length q4) (.slice p5 T.s.wa.length q5) T:=by
 obtain⟨xm,xb,xt,xp,xq,xr,rfl,tw⟩:=h
 obtain⟨p0,q0,rfl,_,_⟩:=tw.h.m.form
 obtain⟨p1,q1,rfl,_,_⟩:=tw.h.b.form
 obtain⟨p2,q2,rfl,_,_⟩:=tw.h.t.form
 obtain⟨p3,q3,rfl,_,_⟩:=tw.s.m.form
 obtain⟨p4,q4,rfl,_,_⟩:=tw.s.o.form
 obtain⟨p5,q5,rfl,_,_⟩:=tw.s.a.form
 exact⟨p0,q0,p1,q1,p2,q2,p3,q3,p4,q4,p5,q5,rfl,tw⟩
end
section
open Go.RowKit
attribute [local go_sem] j4.drew j4.alloc j4.drewN WB.holds Oper.semAt_some Q9 O1 J7
theorem bY5 {w0 w:World} {H0 H:j5} (hx:Ext w0 H0 w H) (a:ByteArray) (ha:a.size≤1000000):
 ∃H2,D8 H H2∧Ext w0 H0 (w.alloc (.cells #[.string a] 9)) H2∧Sl H2 (.slice (some ⟨w.heap.size,0,none⟩) 1 1) [a]:=
 aN5 hx [a] (fun x hx=>by simp at hx;subst hx;exact ha) (by simp)
theorem ec6 (n:Int) (e:ByteArray):(⟨#[97,116,32]⟩:ByteArray)++G6 n++⟨#[32]⟩++e=atB n e:=by
 apply ah1
 rw[aa5,aa5,aa5]
 rfl
theorem dl1 (vm vb vt um uo ua lv:Value) (t:D5) (l:List ByteArray) (q:ByteArray) (n:Int) (H:j5) (dr:Doors H) (w:World) (hw:j4 H w) (ht:Twn H vm vb vt um uo ua t) (hl:Sl H lv l) (eW6:q.size≤140737488355328) (hnI:K8 n):
 Calls Tryz.prog 10 #[ah0 vm vb vt um uo ua t,lv,.agg #[.string q,.int .i64 n]] w (I1 w (.bool true)):=by
 have cW:=fun(H':j5) (W:World) (hW:j4 H' W) (hle:D8 H H')=>aO6 H' (dr.mono hle) W hW
 replace cW:=fe6 cW
 have cY:=fun(H':j5) (W:World) (hW:j4 H' W) (hle:D8 H H')=>aA3 vm vb vt um uo ua lv t l H' W hW (ht.mono hle) (hl.mono hle)
 obtain⟨al,cl,rfl,hl1,hl2⟩:=hl.form
 replace ht:=fe6 ht
 replace dr:=fe6 dr
 replace hl:=fe6 hl
 replace cY:=fe6 cY
 go_enter Tryz.func10,Tryz.ntmps10
 go_upto_region 1 with(first|(have hgd:=hx;refine uI7 rfl _ rfl hx ?_;intro C w2 H2 hle2 hx2 hC hCw;have g0:∀W,j4 H2 W→W.cell? ⟨C,0,none⟩=some (.string q):=fun W hW=>D7 hC hW 0;have g1:∀W,j4 H2 W→W.cell? ⟨C,1,none⟩=some (.int .i64 n):=fun W hW=>D7 hC hW 1;replace hc0:=lift hle2 hc0;replace hc1:=lift hle2 hc1;replace hc2:=lift hle2 hc2;replace hc3:=lift hle2 hc3;replace hc4:=lift hle2 hc4;replace O8:=lift hle2 O8;replace hc6:=lift hle2 hc6;replace O9:=lift hle2 O9;replace hle:=hle.trans hle2;clear hC hx hw1 hle2;have hw2:=hx2.holds)|(refine uI7 rfl _ rfl (Ext.refl hw) ?_;intro B w1 H1 hle hx hB hBw;obtain⟨hc0,hc1,hc2,hc3,hc4,O8,hc6,O9⟩:=I5 hB;clear hB hw;have hw1:=hx.holds))
 refine E8 H2 (by kernel_rfl) (by kernel_rfl) hw2 (fun hne=> ?_)
 repeat go_big_quiet_step((first|fail))
 refine wpQuiet_nil ?_
 rintro⟨w3,hw3,hb3⟩
 clear hne
 have x3:=hx2.step (hb3.mono hx2.below.size) (hw2.below hb3)
 replace ht:=ht.out
 replace dr:=dr.out
 replace hl:=hl.out
 replace cY:=cY.out
 by_cases hE:(40:Int)<(q.size:Int)∨(¬(40:Int)<(q.size:Int)∧((A8 q).kind≠2∨((A8 q).kind=2∧(within n 0 99=false∨(within n 0 99=true∧((24:Int)≤(l.length:Int)∨(¬(24:Int)≤(l.length:Int)∧aF8 t l=false)))))))
 ·have cK:=fun(hz:¬(40:Int)<(q.size:Int)) (H':j5) (W:World) (hW:j4 H' W)=>aI0 q (by omega) H' W hW
  generalize(A8 q).kind=Kq at*
  rcases hE with zq|⟨zq,kq|⟨kq,hwi|⟨hwi,z24|⟨z24,hr⟩⟩⟩⟩
  all_goals
   (try subst kq)
   (try rw[hr]at cY)
   replace cK:=fe6 cK
   replace cY:=fe6 cY
   clear ht dr
   (try clear hr)
   go_wp2_with(first|((go_at_call 16;go_must (refine(cK.out zq _ _ x3.holds).mono ?_);rintro e w4 ⟨rfl,hb4⟩;have x4:=x3.step (hb4.mono x3.below.size) (x3.holds.below hb4);have hw4:=x4.holds))|((go_at_call 26;refine(aD4 _ _ _ _).mono ?_;rintro e w5 ⟨rfl,rfl⟩;rw[hwi]))|((go_at_call 17;go_must (refine(cY.out _ _ x4.holds hle).mono ?_);rintro e w6 ⟨rfl,hb6⟩;have x6:=x4.step (hb6.mono x4.below.size) (x4.holds.below hb6);have hw6:=x6.holds))|((go_at_call 18;first|(refine(cW.out _ _ x6.holds hle).mono ?_;rintro e wz ⟨rfl,hbz⟩;have xz:=x6.step (hbz.mono x6.below.size) (x6.holds.below hbz))|(refine(cW.out _ _ x4.holds hle).mono ?_;rintro e wz ⟨rfl,hbz⟩;have xz:=x4.step (hbz.mono x4.below.size) (x4.holds.below hbz))|(refine(cW.out _ _ x3.holds hle).mono ?_;rintro e wz ⟨rfl,hbz⟩;have xz:=x3.step (hbz.mono x3.below.size) (x3.holds.below hbz)))))
   go_ret
   exact⟨rfl,xz.below⟩
 have zq:¬(40:Int)<(q.size:Int):=fun h=>hE (.inl h)
 have kq:(A8 q).kind=2:=Decidable.byContradiction fun h=>hE (.inr ⟨zq,.inl h⟩)
 have hwi:within n 0 99=true:=by
  cases h:within n 0 99
  ·exact absurd (.inr ⟨zq,.inr ⟨kq,.inl h⟩⟩) hE
  ·rfl
 have z24:¬(24:Int)≤(l.length:Int):=fun h=>hE (.inr ⟨zq,.inr ⟨kq,.inr ⟨hwi,.inl h⟩⟩⟩)
 have hr:aF8 t l=true:=by
  cases h:aF8 t l
  ·exact absurd (.inr ⟨zq,.inr ⟨kq,.inr ⟨hwi,.inr ⟨z24,h⟩⟩⟩⟩) hE
  ·rfl
 have cK:=fun(H':j5) (W:World) (hW:j4 H' W)=>aI0 q (by omega) H' W hW
 rw[kq]at cK
 replace cK:=fe6 cK
 obtain⟨n0,n99⟩:0≤n∧n≤99:=by unfold within at hwi;simpa using hwi
 clear hE
 rw[hr]at cY
 have R:=aL3.1 hr
 have hsz:∀s∈l,s.size≤900:=fun s hs=>by have:=R.z s hs;omega
 obtain⟨N,rfl⟩:∃N:Nat,n=(N:Int):=⟨n.toNat,by omega⟩
 have cT:=bL9 (N:Int) (by omega) (by omega)
 have hTz:(G6 (N:Int)).size≤4:=bm7 (by omega) (by omega)
 have hE:=ec6 (N:Int) q
 have hqz:q.size≤1000000:=by omega
 have hSz:(atB (N:Int) q).size≤60:=by rw[←hE,ByteArray.size_append,ByteArray.size_append,ByteArray.size_append];show 3+_+1+_≤_;omega
 have hS1:((⟨#[97,116,32]⟩:ByteArray)++G6 (N:Int)++⟨#[32]⟩++q).size≤1000000:=by rw[ByteArray.size_append,ByteArray.size_append,ByteArray.size_append];show 3+_+1+_≤_;omega
 have law:=fun(hc:∀s∈l,(A8 s).kind≠5∧(A8 s).kind≠6)=>dO0 (t:=t) (l:=l) (q:=q) (n:=(N:Int)) R.v (by omega) kq (by omega) (by omega) hc
 rw[fh8]at law
 have ec7:∀s∈l++[atB (N:Int) q],s.size≤900:=fun s hs=>by
  rcases List.mem_append.1 hs with h|h
  ·exact hsz s h
  ·rw[List.mem_singleton.1 h];omega
 have cK9:=fun(s:ByteArray) (hs:s∈l) (H':j5) (W:World) (hW:j4 H' W)=>aI0 s (by have:=hsz s hs;omega) H' W hW
 have cJ:=fun(vb:Value) (H':j5) (W:World) (hW:j4 H' W) (hle:D8 H H') (h2:Sl H' vb [atB (N:Int) q]) (b:Nat) (d0:∀W,j4 H' W→W.cell? ⟨b,0,none⟩=some (.slice al l.length cl)) (d1:∀W,j4 H' W→W.cell? ⟨b,1,none⟩=some vb)=>bG7 (.slice al l.length cl) vb l [atB (N:Int) q] (by omega) (by simp) H' W hW (hl.mono hle) h2 b d0 d1
 have cY2:=fun(lv:Value) (H':j5) (W:World) (hW:j4 H' W) (hle:D8 H H') (h2:Sl H' lv (l++[atB (N:Int) q]))=>aA3 vm vb vt um uo ua lv t (l++[atB (N:Int) q]) H' W hW (ht.mono hle) h2
 have cU:=fun(lv:Value) (H':j5) (W:World) (hW:j4 H' W) (hle:D8 H H') (h2:Sl H' lv (l++[atB (N:Int) q]))=>aD1 vm vb vt um uo ua lv t (l++[atB (N:Int) q]) R.v (by rw[ff4,ff7];omega) ec7 H' (dr.mono hle) W hW (ht.mono hle) h2
 have cV:=fun(lv:Value) (H':j5) (W:World) (hW:j4 H' W) (hle:D8 H H') (h2:Sl H' lv (l.take N++[q]))=>aD1 vm vb vt um uo ua lv t (l.take N++[q]) R.v (by rw[ff4,ff7,fg6];omega) (fun s hs=>by
  rcases List.mem_append.1 hs with h|h
  ·exact hsz s (List.mem_of_mem_take h)
  ·rw[List.mem_singleton.1 h];omega) H' (dr.mono hle) W hW (ht.mono hle) h2
 have cJ2:=fun(va vb:Value) (H':j5) (W:World) (hW:j4 H' W) (h1:Sl H' va (l.take N)) (h2:Sl H' vb [q]) (b:Nat) (d0:∀W,j4 H' W→W.cell? ⟨b,0,none⟩=some va) (d1:∀W,j4 H' W→W.cell? ⟨b,1,none⟩=some vb)=>bG7 va vb (l.take N) [q] (by rw[fg6];omega) (by simp) H' W hW h1 h2 b d0 d1
 have hAl:(Y1 t (l++[atB (N:Int) q])).length=l.length+1:=by rw[ap6 R.v (by rw[ff4,ff7];omega),(ax9 _ _).1,ff4,ff7]
 have hA2:N≤l.length→(Y1 t (l.take N++[q])).length=N+1:=fun h=>by rw[ap6 R.v (by rw[ff4,ff7,fg6];omega),(ax9 _ _).1,ff4,ff7,fg6];omega
 obtain⟨r2,hr2⟩:∃r2,aF8 t (l++[atB (N:Int) q])=r2:=⟨_,rfl⟩
 rw[hr2]at cY2
 generalize G6 (N:Int)=XT at*
 generalize atB (N:Int) q=S at*
 generalize V5 t (l++[S])=T at*
 generalize V5 t (l.take N++[q])=T2 at*
 generalize Y1 t (l++[S])=A at*
 generalize Y1 t (l.take N++[q])=A2 at*
 generalize O0 t (l++[S])=K at*
 generalize O0 t (l.take N++[q])=K2 at*
 generalize l++[S]=L2 at*
 generalize l.take N++[q]=L3 at*
 replace cY:=fe6 cY
 replace cK9:=fe6 cK9
 replace cJ:=fe6 cJ
 replace cJ2:=fe6 cJ2
 replace cY2:=fe6 cY2
 replace cU:=fe6 cU
 replace cV:=fe6 cV
 replace cT:=fe6 cT
 replace law:=fe6 law
 replace hE:=fe6 hE
 replace hAl:=fe6 hAl
 replace hA2:=fe6 hA2
 replace hSz:=fe6 hSz
 have eW7:=fe6 hsz
 have sl:=hl
 clear hr R ht dr kq hsz ec7 hr2 hl
 go_wp2_with(first|((go_at_call 16;go_must (refine(cK.out _ _ x3.holds).mono ?_);rintro e w4 ⟨rfl,hb4⟩;have x4:=x3.step (hb4.mono x3.below.size) (x3.holds.below hb4);have hw4:=x4.holds))|((go_at_call 26;refine(aD4 _ _ _ _).mono ?_;rintro e w5 ⟨rfl,rfl⟩;rw[hwi]))|((go_at_call 17;go_must (refine(cY.out _ _ x4.holds hle).mono ?_);rintro e w6 ⟨rfl,hb6⟩;have x6:=x4.step (hb6.mono x4.below.size) (x4.holds.below hb6);have hw6:=x6.holds)))
 clear cY cK
 go_loopw [9] (fun i wr=>∃k:Nat,k≤l.length∧i= .int .i64 (k:Int)∧Hid (∀s∈l.take k,(A8 s).kind≠5∧(A8 s).kind≠6)∧Ext w H wr H2) (fun i _=>l.length-(intOf i).toNat)
 case atStart=>exact⟨0,fh3 _,rfl,fe6 (fun s hs=>by simp at hs),x6⟩
 case round=>
  clear x6 x4 x3 hx2 hw4 hw6
  obtain⟨k,hk,rfl,hno,E5⟩:=hrel
  have hwr:=E5.holds
  by_cases hlk:k<l.length
  ·obtain⟨z,hz⟩:=At.mk hlk
   have sl2:=sl.mono hle
   obtain⟨b1,o1,c1,hez,hszz,p1⟩:=sl2.str hz
   cases hez
   have hm:=fun(W:World) (hW:j4 H2 W)=>cK9.out z hz.mem H2 W hW
   have hk0:(0:Int)≤(k:Int):=by omega
   have hk1:(k:Int)<(l.length:Int):=by omega
   have cw8:=fun(h5:(A8 z).kind≠5) (h6:(A8 z).kind≠6)=>fe6 (show ∀s∈l.take (k+1),(A8 s).kind≠5∧(A8 s).kind≠6 from fun s hs=>by
    rw[hz.take]at hs
    rcases List.mem_append.1 hs with h|h
    ·exact hno.out s h
    ·rw[List.mem_singleton.1 h];exact⟨h5,h6⟩)
   clear hno hszz hz
   generalize(A8 z).kind=Kz at*
   replace hm:=fe6 hm
   by_cases k5:Kz=5
   ·clear cw8
    go_wp2_with(first|(go_at_call 16;go_must (refine(hm.out _ hwr).mono ?_);rintro e w9 ⟨rfl,hb9⟩;have x9:=E5.step (hb9.mono E5.below.size) (hwr.below hb9))|(go_at_call 18;refine(cW.out _ _ x9.holds hle).mono ?_;rintro e wz ⟨rfl,hbz⟩;have xz:=x9.step (hbz.mono x9.below.size) (x9.holds.below hbz)))
    go_ret
    exact⟨rfl,xz.below⟩
   ·by_cases k6:Kz=6
    ·clear cw8
     have t5:(Kz==5)=false:=beq_eq_false_iff_ne.2 k5
     go_wp2_with(first|(go_at_call 16;go_must (refine(hm.out _ hwr).mono ?_);rintro e w9 ⟨rfl,hb9⟩;have x9:=E5.step (hb9.mono E5.below.size) (hwr.below hb9))|(go_at_call 18;refine(cW.out _ _ x9.holds hle).mono ?_;rintro e wz ⟨rfl,hbz⟩;have xz:=x9.step (hbz.mono x9.below.size) (x9.holds.below hbz)))
     go_ret
     exact⟨rfl,xz.below⟩
    ·replace cw8:=fe6 (cw8 k5 k6)
     have t5:(Kz==5)=false:=beq_eq_false_iff_ne.2 k5
     have t6:(Kz==6)=false:=beq_eq_false_iff_ne.2 k6
     go_wp2_with(go_at_call 16;go_must (refine(hm.out _ hwr).mono ?_);rintro e w9 ⟨rfl,hb9⟩)
     go_roundw
     case rel=>exact⟨k+1,by omega,by go_num,cw8.out,E5.step (hb9.mono E5.below.size) (hwr.below hb9)⟩
     case measure=>simp[intOf];omega
  ·have hke:k=l.length:=by omega
   subst hke
   rw[List.take_length]at hno
   have hla:=fe6 (law.out hno.out)
   have hk1:¬(l.length:Int)<(l.length:Int):=by omega
   have hqS:¬9223372036854775807<3+XT.size+1+q.size:=by omega
   clear hno law cK9
   go_upto_region 11 with(first|(go_at_call 19;obtain⟨HA,lA,xA,sO⟩:=bY5 xT ((⟨#[97,116,32]⟩:ByteArray)++XT++⟨#[32]⟩++q) hS1;rw[hE.out]at sO;obtain⟨HB,lB,xB,e0,e1⟩:=bn8 xA (.slice al (List.length l) cl) (.slice (some ⟨wT.heap.size,0,none⟩) 1 1) 33;rw[World.size_alloc]at e0 e1;go_must (refine(cJ.out _ _ _ xB.holds (hle.trans (lA.trans lB)) (sO.mono lB) _ e0 e1).mono ?_);rintro e wJ ⟨_,HJ,rfl,yJ,sJ⟩;obtain⟨pJ,qJ,rfl,_,_⟩:=sJ.form;have xJ:=xB.trans yJ;have lJ:=(lA.trans lB).trans (yJ.le xB.holds))|(go_at_call 41;go_must (refine(cT.out _).mono ?_);rintro e wT ⟨rfl,hbT⟩;have xT:=E5.step (hbT.mono E5.below.size) (hwr.below hbT)))
   have hwJ:=xJ.holds
   replace hc0:=lift lJ hc0
   replace hc1:=lift lJ hc1
   replace hc2:=lift lJ hc2
   replace hc3:=lift lJ hc3
   replace hc4:=lift lJ hc4
   replace O8:=lift lJ O8
   replace hc6:=lift lJ hc6
   replace O9:=lift lJ O9
   replace hle:=hle.trans lJ
   clear E5 hwr xT hbT xA xB lA lB e0 e1 yJ sO cJ cT hE hS1 lJ
   cases r2
   ·go_wp2_with(first|(go_at_call 17;go_must (refine(cY2.out _ _ _ hwJ hle sJ).mono ?_);rintro e w7 ⟨rfl,hb7⟩;have x7:=xJ.step (hb7.mono xJ.below.size) (hwJ.below hb7);have hw7:=x7.holds)|(go_at_call 18;refine(cW.out _ _ x7.holds hle).mono ?_;rintro e wz ⟨rfl,hbz⟩;have xz:=x7.step (hbz.mono x7.below.size) (x7.holds.below hbz)))
    go_ret
    exact⟨rfl,xz.below⟩
   go_upto_region 14 with(first|(go_at_call 17;go_must (refine(cY2.out _ _ _ hwJ hle sJ).mono ?_);rintro e w7 ⟨rfl,hb7⟩;have x7:=xJ.step (hb7.mono xJ.below.size) (hwJ.below hb7);have hw7:=x7.holds)|(go_at_call 23;go_must (refine(cU.out _ _ _ hw7 hle sJ).mono ?_);rintro e w8 ⟨_,H8,rfl,y8,va,vt',vk,rfl,sA,⟨xm,xb,xt,xp,xq,xr,rfl,tw8⟩,sK⟩;obtain⟨pA,qA,rfl,_,_⟩:=sA.form;obtain⟨pK,qK,rfl,_,_⟩:=sK.form;obtain⟨p0,pq0,rfl,_,_⟩:=tw8.h.m.form;obtain⟨p1,pq1,rfl,_,_⟩:=tw8.h.b.form;obtain⟨p2,pq2,rfl,_,_⟩:=tw8.h.t.form;obtain⟨p3,pq3,rfl,_,_⟩:=tw8.s.m.form;obtain⟨p4,pq4,rfl,_,_⟩:=tw8.s.o.form;obtain⟨p5,pq5,rfl,_,_⟩:=tw8.s.a.form;have x8:=x7.trans y8))
   have hn_:H8 (World.heap w8).size=none:=(x8).holds.D6 (fh0 _)
   have x9:=((x8).alloc (.cells #[.slice p0 T.h.ms.length pq0,.slice p1 T.h.bs.length pq1,.slice p2 T.h.ts.length pq2,.int .i64 T.h.ch,.slice p3 T.s.mo.length pq3,.slice p4 T.s.wo.length pq4,.slice p5 T.s.wa.length pq5,.int .i64 T.s.fr] 32)).freeze (x8).below.size (heap_alloc_new w8 _)
   have l9:=j5.L9 hn_ (.cells #[.slice p0 T.h.ms.length pq0,.slice p1 T.h.bs.length pq1,.slice p2 T.h.ts.length pq2,.int .i64 T.h.ch,.slice p3 T.s.mo.length pq3,.slice p4 T.s.wo.length pq4,.slice p5 T.s.wa.length pq5,.int .i64 T.s.fr] 32 (0,0))
   have eA8:=j5.G7 H8 (World.heap w8).size (.cells #[.slice p0 T.h.ms.length pq0,.slice p1 T.h.bs.length pq1,.slice p2 T.h.ts.length pq2,.int .i64 T.h.ch,.slice p3 T.s.mo.length pq3,.slice p4 T.s.wo.length pq4,.slice p5 T.s.wa.length pq5,.int .i64 T.s.fr] 32 (0,0))
   clear hn_
   generalize j5.put H8 (World.heap w8).size (.cells #[.slice p0 T.h.ms.length pq0,.slice p1 T.h.bs.length pq1,.slice p2 T.h.ts.length pq2,.int .i64 T.h.ch,.slice p3 T.s.mo.length pq3,.slice p4 T.s.wo.length pq4,.slice p5 T.s.wa.length pq5,.int .i64 T.s.fr] 32 (0,0))=H9 at*
   generalize World.alloc w8 (.cells #[.slice p0 T.h.ms.length pq0,.slice p1 T.h.bs.length pq1,.slice p2 T.h.ts.length pq2,.int .i64 T.h.ch,.slice p3 T.s.mo.length pq3,.slice p4 T.s.wo.length pq4,.slice p5 T.s.wa.length pq5,.int .i64 T.s.fr] 32)=w9 at*
   generalize(World.heap w8).size=D at*
   have l19:D8 HJ H9:=(y8.le hw7).trans l9
   replace hle:=hle.trans l19
   replace sA:=sA.mono l9
   replace hc0:=lift l19 hc0
   replace hc1:=lift l19 hc1
   replace hc2:=lift l19 hc2
   replace hc3:=lift l19 hc3
   replace hc4:=lift l19 hc4
   replace O8:=lift l19 O8
   replace hc6:=lift l19 hc6
   replace O9:=lift l19 O9
   have hw9:=x9.holds
   clear tw8 x8 y8 eA8 l9 cU cY2 sJ sK xJ hwJ x7 hw7 hb7
   obtain⟨z,hz⟩:=At.mk (show l.length<A.length by rw[hAl.out];omega)
   obtain⟨b1,o1,c1,hez,hszz,p1⟩:=sA.str hz
   cases hez
   have hgz:A.getD l.length ⟨#[]⟩=z:=by rw[ff3,show A[l.length]? =some z from hz];rfl
   have ec9:=hAl.out
   have hi1:(l.length:Int)<(A.length:Int):=by omega
   replace ec9:=fe6 ec9
   rw[hgz]at hla
   have hl0:(0:Int)≤(l.length:Int):=by omega
   clear hgz hz
   by_cases hnl:(l.length:Int)<(N:Int)
   ·have hzw:z=at0:=by have:=hla.out;rw[if_pos hnl]at this;exact this
    subst hzw
    have hOk:=G8 (a:=at0) (l:=[119,114,111,110,103]) rfl
    go_wp2_with(go_at_call 18;refine(cW.out _ _ x9.holds hle).mono ?_;rintro e wz ⟨rfl,hbz⟩;have xz:=x9.step (hbz.mono x9.below.size) (x9.holds.below hbz))
    go_ret
    exact⟨rfl,xz.below⟩
   ·have hzz:=hla.out
    rw[if_neg hnl]at hzz
    have hNl:N≤l.length:=by omega
    have ed0:=hA2.out hNl
    have hN0:(0:Int)≤(N:Int):=by omega
    have hN1:(N:Int)≤(l.length:Int):=by omega
    have hz2:At A2 N z:=by
     obtain⟨y,hy⟩:=At.mk (show N<A2.length by omega)
     have:A2.getD N ⟨#[]⟩=y:=by rw[ff3,show A2[N]? =some y from hy];rfl
     rw[hzz,this];exact hy
    have hi2:(N:Int)<(A2.length:Int):=by omega
    replace ed0:=fe6 ed0
    replace hzz:=fe6 hzz
    replace hz2:=fe6 hz2
    obtain⟨ap,hrp,sp⟩:=cw6 hNl (sl.mono hle)
    replace sp:=fe6 sp
    clear hla
    go_upto_region 18 with fail
    go_cut [16,17,18,19] (fun v1 v2 v3 v4 wx=>dl0 w H H9 A2 K2 T2 v1 v2 v3 v4 wx)
    case first=>
     refine U1 (S:=(fun w'=>j4 H9 w')) 18 (by kernel_rfl) (by kernel_rfl) ?_ (fun N9=> ?_)
     ·(try dsimp only)
      (first|assumption|exact j4.drew ‹_›|exact j4.alloc ‹_› _)
     simp only[ff8,fg1,fh6,fh7,fg9,fg8,fg3,ff9,fg2]
     have xr0:=x9.drew
     have lr0:D8 H9 H9:=D8.refl _
     generalize World.drew w9=wr0 at*
     refine hdA 0 ?_
     refine hdA 1 ?_
     refine hdA 2 ?_
     refine hdA 3 ?_
     refine hdA 4 ?_
     (try simp only[Act.put,fe7,ff1,ff2])
     refine hdR 5 [14] (fun K hK=> ?_) ?_
     ·go_simp
      obtain⟨G1,lq,y,sQ⟩:=bY5 (Ext.refl xr0.holds) q hqz
      generalize World.alloc wr0 (.cells #[.string q] 9)=wr1 at*
      generalize(World.heap wr0).size=gq at*
      have xr1:=xr0.trans y
      have lr1:=lr0.trans (y.le xr0.holds)
      have kk:=xr1.holds.mono lr1
      clear y
      refine hK.out _ _ kk (fun I4=> ?_)
      clear hK K N9
      (try simp only[Act.put,fe7,ff1,ff2])
      refine hdR 6 [14] (fun K hK=> ?_) ?_
      ·go_simp
       obtain⟨G2,lr,y,e0,e1⟩:=bn8 (Ext.refl xr1.holds) (.slice ap N cl) (.slice (some ⟨gq,0,none⟩) 1 1) 33
       replace sQ:=sQ.mono lr
       generalize World.alloc wr1 (.cells #[.slice ap N cl,.slice (some ⟨gq,0,none⟩) 1 1] 33)=wr2 at*
       generalize(World.heap wr1).size=gr at*
       have xr2:=xr1.trans y
       have lr2:=lr1.trans (y.le xr1.holds)
       have kk:=xr2.holds.mono lr2
       clear y
       refine hK.out _ _ kk (fun F8=> ?_)
       clear hK K I4
       (try simp only[Act.put,fe7,ff1,ff2])
       refine hdR 7 [14] (fun K hK=> ?_) ?_
       ·go_simp
        go_at_call 19
        go_must (refine(cJ2.out _ _ _ _ xr2.holds (sp.out.mono lr2) sQ _ e0 e1).mono ?_)
        rintro e wr3 ⟨_,G3,rfl,y,sM⟩
        obtain⟨pM,qM,rfl,_,_⟩:=sM.form
        have xr3:=xr2.trans y
        have lr3:=lr2.trans (y.le xr2.holds)
        have kk:=xr3.holds.mono lr3
        clear y
        refine hK.out _ _ kk (fun F9=> ?_)
        clear hK K F8
        (try simp only[Act.put,fe7,ff1,ff2])
        refine hdR 8 [14] (fun K hK=> ?_) ?_
        ·go_simp
         go_at_call 23
         go_must (refine(cV.out _ _ _ xr3.holds (hle.trans lr3) sM).mono ?_)
         rintro e wr4 ⟨_,G4,rfl,y,va5,vt5,vk5,rfl,sA5,tv5,sK5⟩
         obtain⟨pA,qA,rfl,_,_⟩:=sA5.form
         obtain⟨pK,qK,rfl,_,_⟩:=sK5.form
         obtain⟨p0,q0,p1,q1,p2,q2,p3,q3,p4,q4,p5,q5,rfl,Q0⟩:=ax0 tv5
         have xr4:=xr3.trans y
         have lr4:=lr3.trans (y.le xr3.holds)
         have kk:=xr4.holds.mono lr4
         clear y
         refine hK.out _ _ kk (fun I7=> ?_)
         clear hK K F9
         refine hdA 9 ?_
         refine hdA 10 ?_
         refine hdA 11 ?_
         refine hdA 12 ?_
         refine hdA 13 ?_
         (try simp only[Act.put,fe7,ff1,ff2])
         refine hdR 14 [] (fun K hK=> ?_) r9.nil
         go_simp
         have cr4:=J4.new xr4 Z8 32
         have bn9:=cr4.x
         have kk:=bn9.holds.mono lr4
         generalize World.alloc wr4 (.cells Z8 32)=cW0 at*
         generalize(World.heap wr4).size=C at*
         refine hK.out _ _ kk (fun aa1=> ?_)
         clear hK K I7
         refine hdA 15 ?_
         (try simp only[Act.put,fe7,ff1,ff2])
         refine hdR 16 [] (fun K hK=> ?_) r9.nil
         obtain⟨e0,e1,e2,e3,e4,e5,e6,e7,ef,rz,xz⟩:=aS0 cr4 T2 p0 q0 p1 q1 p2 q2 p3 q3 p4 q4 p5 q5
         go_simp
         refine hK.out _ _ (xz.holds.mono lr4) (fun bS4=> ?_)
         clear hK K aa1
         refine hdA 17 ?_
         (try simp only[Act.put,fe7,ff1,ff2])
         refine G9 (by kernel_rfl) ?_
         simp only[ff5,ff6]
         go_wp2_with fail
         go_meet
         exact aP9 xz rz.at_ cr4.ob cr4.oH lr4 sA5 sK5 Q0
        refine r9.cons (by simp only[ff0,fe9,fe8]<;>rfl) (fun K hK=> ?_) ?_
        ·go_simp
         have cr3:=J4.new xr3 Z8 32
         have ay8:=cr3.x
         have kk:=ay8.holds.mono lr3
         generalize World.alloc wr3 (.cells Z8 32)=dx2 at*
         generalize(World.heap wr3).size=C at*
         refine hK.out _ _ kk (fun I7=> ?_)
         clear hK K F9
         (try simp only[Act.put,fe7,ff1,ff2])
         refine hdR 8 [] (fun K hK=> ?_) r9.nil
         go_simp
         go_at_call 23
         go_must (refine(cV.out _ _ _ ay8.holds (hle.trans lr3) sM).mono ?_)
         rintro e cW0 ⟨_,G4,rfl,y,va5,vt5,vk5,rfl,sA5,tv5,sK5⟩
         obtain⟨pA,qA,rfl,_,_⟩:=sA5.form
         obtain⟨pK,qK,rfl,_,_⟩:=sK5.form
         obtain⟨p0,q0,p1,q1,p2,q2,p3,q3,p4,q4,p5,q5,rfl,Q0⟩:=ax0 tv5
         have bn9:=ay8.trans y
         have cr4:=cr3.ext y
         have lr4:=lr3.trans (y.le ay8.holds)
         have kk:=bn9.holds.mono lr4
         clear y
         refine hK.out _ _ kk (fun aa1=> ?_)
         clear hK K I7
         refine hdA 9 ?_
         refine hdA 10 ?_
         refine hdA 11 ?_
         refine hdA 12 ?_
         refine hdA 13 ?_
         refine hdA 15 ?_
         (try simp only[Act.put,fe7,ff1,ff2])
         refine hdR 16 [] (fun K hK=> ?_) r9.nil
         obtain⟨e0,e1,e2,e3,e4,e5,e6,e7,ef,rz,xz⟩:=aS0 cr4 T2 p0 q0 p1 q1 p2 q2 p3 q3 p4 q4 p5 q5
         go_simp
         refine hK.out _ _ (xz.holds.mono lr4) (fun bS4=> ?_)
         clear hK K aa1
         refine hdA 17 ?_
         (try simp only[Act.put,fe7,ff1,ff2])
         refine G9 (by kernel_rfl) ?_
         simp only[ff5,ff6]
         go_wp2_with fail
         go_meet
         exact aP9 xz rz.at_ cr4.ob cr4.oH lr4 sA5 sK5 Q0
        exact r9.nil
       refine r9.cons (by simp only[ff0,fe9,fe8]<;>rfl) (fun K hK=> ?_) ?_
       ·go_simp
        have cr2:=J4.new xr2 Z8 32
        have aL4:=cr2.x
        have kk:=aL4.holds.mono lr2
        generalize World.alloc wr2 (.cells Z8 32)=ed2 at*
        generalize(World.heap wr2).size=C at*
        refine hK.out _ _ kk (fun F9=> ?_)
        clear hK K F8
        (try simp only[Act.put,fe7,ff1,ff2])
        refine hdR 7 [] (fun K hK=> ?_) r9.nil
        go_simp
        go_at_call 19
        go_must (refine(cJ2.out _ _ _ _ aL4.holds (sp.out.mono lr2) sQ _ e0 e1).mono ?_)
        rintro e dx2 ⟨_,G3,rfl,y,sM⟩
        obtain⟨pM,qM,rfl,_,_⟩:=sM.form
        have ay8:=aL4.trans y
        have cr3:=cr2.ext y
        have lr3:=lr2.trans (y.le aL4.holds)
        have kk:=ay8.holds.mono lr3
        clear y
        refine hK.out _ _ kk (fun I7=> ?_)
        clear hK K F9
        (try simp only[Act.put,fe7,ff1,ff2])
        refine hdR 8 [] (fun K hK=> ?_) r9.nil
        go_simp
        go_at_call 23
        go_must (refine(cV.out _ _ _ ay8.holds (hle.trans lr3) sM).mono ?_)
        rintro e cW0 ⟨_,G4,rfl,y,va5,vt5,vk5,rfl,sA5,tv5,sK5⟩
        obtain⟨pA,qA,rfl,_,_⟩:=sA5.form
        obtain⟨pK,qK,rfl,_,_⟩:=sK5.form
        obtain⟨p0,q0,p1,q1,p2,q2,p3,q3,p4,q4,p5,q5,rfl,Q0⟩:=ax0 tv5
        have bn9:=ay8.trans y
        have cr4:=cr3.ext y
        have lr4:=lr3.trans (y.le ay8.holds)
        have kk:=bn9.holds.mono lr4
        clear y
        refine hK.out _ _ kk (fun aa1=> ?_)
        clear hK K I7
        refine hdA 9 ?_
        refine hdA 10 ?_
        refine hdA 11 ?_
        refine hdA 12 ?_
        refine hdA 13 ?_
        refine hdA 15 ?_
        (try simp only[Act.put,fe7,ff1,ff2])
        refine hdR 16 [] (fun K hK=> ?_) r9.nil
        obtain⟨e0,e1,e2,e3,e4,e5,e6,e7,ef,rz,xz⟩:=aS0 cr4 T2 p0 q0 p1 q1 p2 q2 p3 q3 p4 q4 p5 q5
        go_simp
        refine hK.out _ _ (xz.holds.mono lr4) (fun bS4=> ?_)
        clear hK K aa1
        refine hdA 17 ?_
        (try simp only[Act.put,fe7,ff1,ff2])
        refine G9 (by kernel_rfl) ?_
        simp only[ff5,ff6]
        go_wp2_with fail
        go_meet
        exact aP9 xz rz.at_ cr4.ob cr4.oH lr4 sA5 sK5 Q0
       exact r9.nil
      refine r9.cons (by simp only[ff0,fe9,fe8]<;>rfl) (fun K hK=> ?_) ?_
      ·go_simp
       have cr1:=J4.new xr1 Z8 32
       have bo0:=cr1.x
       have kk:=bo0.holds.mono lr1
       generalize World.alloc wr1 (.cells Z8 32)=cx0 at*
       generalize(World.heap wr1).size=C at*
       refine hK.out _ _ kk (fun F8=> ?_)
       clear hK K I4
       (try simp only[Act.put,fe7,ff1,ff2])
       refine hdR 6 [] (fun K hK=> ?_) r9.nil
       go_simp
       obtain⟨G2,lr,y,e0,e1⟩:=bn8 (Ext.refl bo0.holds) (.slice ap N cl) (.slice (some ⟨gq,0,none⟩) 1 1) 33
       replace sQ:=sQ.mono lr
       generalize World.alloc cx0 (.cells #[.slice ap N cl,.slice (some ⟨gq,0,none⟩) 1 1] 33)=ed2 at*
       generalize(World.heap cx0).size=gr at*
       have aL4:=bo0.trans y
       have cr2:=cr1.ext y
       have lr2:=lr1.trans (y.le bo0.holds)
       have kk:=aL4.holds.mono lr2
       clear y
       refine hK.out _ _ kk (fun F9=> ?_)
       clear hK K F8
       (try simp only[Act.put,fe7,ff1,ff2])
       refine hdR 7 [] (fun K hK=> ?_) r9.nil
       go_simp
       go_at_call 19
       go_must (refine(cJ2.out _ _ _ _ aL4.holds (sp.out.mono lr2) sQ _ e0 e1).mono ?_)
       rintro e dx2 ⟨_,G3,rfl,y,sM⟩
       obtain⟨pM,qM,rfl,_,_⟩:=sM.form
       have ay8:=aL4.trans y
       have cr3:=cr2.ext y
       have lr3:=lr2.trans (y.le aL4.holds)
       have kk:=ay8.holds.mono lr3
       clear y
       refine hK.out _ _ kk (fun I7=> ?_)
       clear hK K F9
       (try simp only[Act.put,fe7,ff1,ff2])
       refine hdR 8 [] (fun K hK=> ?_) r9.nil
       go_simp
       go_at_call 23
       go_must (refine(cV.out _ _ _ ay8.holds (hle.trans lr3) sM).mono ?_)
       rintro e cW0 ⟨_,G4,rfl,y,va5,vt5,vk5,rfl,sA5,tv5,sK5⟩
       obtain⟨pA,qA,rfl,_,_⟩:=sA5.form
       obtain⟨pK,qK,rfl,_,_⟩:=sK5.form
       obtain⟨p0,q0,p1,q1,p2,q2,p3,q3,p4,q4,p5,q5,rfl,Q0⟩:=ax0 tv5
       have bn9:=ay8.trans y
       have cr4:=cr3.ext y
       have lr4:=lr3.trans (y.le ay8.holds)
       have kk:=bn9.holds.mono lr4
       clear y
       refine hK.out _ _ kk (fun aa1=> ?_)
       clear hK K I7
       refine hdA 9 ?_
       refine hdA 10 ?_
       refine hdA 11 ?_
       refine hdA 12 ?_
       refine hdA 13 ?_
       refine hdA 15 ?_
       (try simp only[Act.put,fe7,ff1,ff2])
       refine hdR 16 [] (fun K hK=> ?_) r9.nil
       obtain⟨e0,e1,e2,e3,e4,e5,e6,e7,ef,rz,xz⟩:=aS0 cr4 T2 p0 q0 p1 q1 p2 q2 p3 q3 p4 q4 p5 q5
       go_simp
       refine hK.out _ _ (xz.holds.mono lr4) (fun bS4=> ?_)
       clear hK K aa1
       refine hdA 17 ?_
       (try simp only[Act.put,fe7,ff1,ff2])
       refine G9 (by kernel_rfl) ?_
       simp only[ff5,ff6]
       go_wp2_with fail
       go_meet
       exact aP9 xz rz.at_ cr4.ob cr4.oH lr4 sA5 sK5 Q0
      exact r9.nil
     refine r9.cons (by simp only[ff0,fe9,fe8]<;>rfl) (fun K hK=> ?_) ?_
     ·go_simp
      have cr0:=J4.new xr0 Z8 32
      have cW4:=cr0.x
      have kk:=cW4.holds.mono lr0
      generalize World.alloc wr0 (.cells Z8 32)=ed3 at*
      generalize(World.heap wr0).size=C at*
      refine hK.out _ _ kk (fun I4=> ?_)
      clear hK K N9
      (try simp only[Act.put,fe7,ff1,ff2])
      refine hdR 5 [] (fun K hK=> ?_) r9.nil
      go_simp
      obtain⟨G1,lq,y,sQ⟩:=bY5 (Ext.refl cW4.holds) q hqz
      generalize World.alloc ed3 (.cells #[.string q] 9)=cx0 at*
      generalize(World.heap ed3).size=gq at*
      have bo0:=cW4.trans y
      have cr1:=cr0.ext y
      have lr1:=lr0.trans (y.le cW4.holds)
      have kk:=bo0.holds.mono lr1
      clear y
      refine hK.out _ _ kk (fun F8=> ?_)
      clear hK K I4
      (try simp only[Act.put,fe7,ff1,ff2])
      refine hdR 6 [] (fun K hK=> ?_) r9.nil
      go_simp
      obtain⟨G2,lr,y,e0,e1⟩:=bn8 (Ext.refl bo0.holds) (.slice ap N cl) (.slice (some ⟨gq,0,none⟩) 1 1) 33
      replace sQ:=sQ.mono lr
      generalize World.alloc cx0 (.cells #[.slice ap N cl,.slice (some ⟨gq,0,none⟩) 1 1] 33)=ed2 at*
      generalize(World.heap cx0).size=gr at*
      have aL4:=bo0.trans y
      have cr2:=cr1.ext y
      have lr2:=lr1.trans (y.le bo0.holds)
      have kk:=aL4.holds.mono lr2
      clear y
      refine hK.out _ _ kk (fun F9=> ?_)
      clear hK K F8
      (try simp only[Act.put,fe7,ff1,ff2])
      refine hdR 7 [] (fun K hK=> ?_) r9.nil
      go_simp
      go_at_call 19
      go_must (refine(cJ2.out _ _ _ _ aL4.holds (sp.out.mono lr2) sQ _ e0 e1).mono ?_)
      rintro e dx2 ⟨_,G3,rfl,y,sM⟩
      obtain⟨pM,qM,rfl,_,_⟩:=sM.form
      have ay8:=aL4.trans y
      have cr3:=cr2.ext y
      have lr3:=lr2.trans (y.le aL4.holds)
      have kk:=ay8.holds.mono lr3
      clear y
      refine hK.out _ _ kk (fun I7=> ?_)
      clear hK K F9
      (try simp only[Act.put,fe7,ff1,ff2])
      refine hdR 8 [] (fun K hK=> ?_) r9.nil
      go_simp
      go_at_call 23
      go_must (refine(cV.out _ _ _ ay8.holds (hle.trans lr3) sM).mono ?_)
      rintro e cW0 ⟨_,G4,rfl,y,va5,vt5,vk5,rfl,sA5,tv5,sK5⟩
      obtain⟨pA,qA,rfl,_,_⟩:=sA5.form
      obtain⟨pK,qK,rfl,_,_⟩:=sK5.form
      obtain⟨p0,q0,p1,q1,p2,q2,p3,q3,p4,q4,p5,q5,rfl,Q0⟩:=ax0 tv5
      have bn9:=ay8.trans y
      have cr4:=cr3.ext y
      have lr4:=lr3.trans (y.le ay8.holds)
      have kk:=bn9.holds.mono lr4
      clear y
      refine hK.out _ _ kk (fun aa1=> ?_)
      clear hK K I7
      refine hdA 9 ?_
      refine hdA 10 ?_
      refine hdA 11 ?_
      refine hdA 12 ?_
      refine hdA 13 ?_
      refine hdA 15 ?_
      (try simp only[Act.put,fe7,ff1,ff2])
      refine hdR 16 [] (fun K hK=> ?_) r9.nil
      obtain⟨e0,e1,e2,e3,e4,e5,e6,e7,ef,rz,xz⟩:=aS0 cr4 T2 p0 q0 p1 q1 p2 q2 p3 q3 p4 q4 p5 q5
      go_simp
      refine hK.out _ _ (xz.holds.mono lr4) (fun bS4=> ?_)
      clear hK K aa1
      refine hdA 17 ?_
      (try simp only[Act.put,fe7,ff1,ff2])
      refine G9 (by kernel_rfl) ?_
      simp only[ff5,ff6]
      go_wp2_with fail
      go_meet
      exact aP9 xz rz.at_ cr4.ob cr4.oH lr4 sA5 sK5 Q0
     exact r9.nil
    case rest=>
     obtain⟨pB,qB,pL,qL,E,H5,rfl,rfl,rfl,rfl,x5,l5,sB,sL,_⟩:=hcut
     have hw5:=x5.holds
     replace p1:=lift l5 p1
     obtain⟨b2,o2,c2,hez,eR8,p2⟩:=sB.str hz2.out
     cases hez
     have eA9:=hle.trans l5
     have cZ:=fun(W:World) (hW:j4 H5 W)=>cW.out H5 W hW eA9
     replace cZ:=fe6 cZ
     clear x9 hw9 hrp sp sL sA sl cV cJ2 hc0 hc1 hc2 hc3 hc4 O8 hc6 O9
     go_upto_region 19 with fail
     refine E8 H5 (by kernel_rfl) (by kernel_rfl) hw5 (fun hne=> ?_)
     repeat go_big_quiet_step((first|(go_at_call 18;exact Calls.am7 (cZ.out _ (WB.holds _)))))
     refine wpQuiet_nil ?_
     rintro⟨w3,hw3,hb3⟩
     clear hne
     go_wp2_with fail
     go_ret
     exact⟨rfl,x5.below.trans (hb3.mono x5.below.size)⟩
end
end Go.Proofs.YtbliehinagkldaaGreatDoor
