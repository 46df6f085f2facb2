/- Lemmas and the walk of the law OverseerBoth (names and blanks made short by a program). -/
import Derived.Test.YtbliehinagkldaaGreatDoorG18
set_option linter.all false
set_option maxRecDepth 100000
set_option maxHeartbeats 16000000
open Go.Lib renaming hid → fe6
open List renaming setIfInBounds_toArray → fe7, getElem?_cons_zero → fe8, getElem?_cons_succ → fe9, getElem?_toArray → ff0, set_cons_zero → ff1, set_cons_succ → ff2, getD_eq_getElem?_getD → ff3, length_append → ff4, drop_succ_cons → ff5, drop_zero → ff6, length_cons → ff8, nil_append → ff9, getElem?_eq_getElem → fg0, length_nil → fg1, cons_append → fg2, push_toArray → fg3, length_map → fg5
open Array renaming replicate_zero → fg8, replicate_succ → fg9
open Nat renaming le_refl → fh0, zero_le → fh3, reduceAdd → fh6, reduceSub → fh7
open Int renaming toNat_natCast → fh8
open Bool renaming and_eq_true → fh9
namespace Go.Proofs.YtbliehinagkldaaGreatDoor
section
open Go.RowKit Go.ChangeShapes Go.WideShapes Go.Deep
theorem aJ9 (w:World):j4 (ad6 w) w:=⟨fun _ _ e=>e⟩
end
section
theorem ay0 (a b:ByteArray):C9 (J8 (C8 a++32::C8 b))=C9 a++C9 b:=by
 unfold C9
 rw[show C8 (J8 (C8 a++32::C8 b))=C8 a++32::C8 b from rfl,bi7,List.map_append]
theorem ap5 {a:ByteArray} (h:∀b∈C8 a,b≠32):C9 a=[a]:=by
 unfold C9
 rw[aF1 h]
 rfl
theorem ca0 (a:ByteArray):C9 a≠[]:=fun e=>aB3 (C8 a) (by unfold C9 at e;exact List.map_eq_nil_iff.1 e)
theorem da9 (n:Int):∀b∈Lib.itoa n,b≠32:=fun b hb e=>by
 have key:∀u,b∈Lib.decDigits u→False:=fun u hu=>by
  have:=ah8.1 (List.all_eq_true.1 (aU5 u) b hu)
  rw[e]at this
  have h32:(32:UInt8).toNat=32:=rfl
  omega
 unfold Lib.itoa at hb
 split at hb
 ·rcases List.mem_cons.1 hb with h|h
  ·rw[e]at h;cases h
  ·exact key _ h
 ·exact key _ hb
end
section
theorem do1 (s:ByteArray):C9 s≠[]:=ca0 s
end
section
theorem db2 (u:Nat):ar2 (Lib.decDigits u)=Lib.decDigits u:=by
 have h:=cm2 u
 unfold ar2
 split
 ·rename_i r hr;rw[hr]at h;exact absurd rfl h
 ·rfl
theorem db3 {n:Int} (h1: -1000000<n) (h2:n<1000000):O5 (G6 n)=some n:=by
 refine cm3 (w:=G6 n) (v:=n) rfl ?_
 show(ar2 (Lib.itoa n)).length≤6
 unfold Lib.itoa
 split
 ·exact aI6 _ 5 (by omega)
 ·rw[db2];exact aI6 _ 5 (by omega)
theorem dd7 (n:Int) (e:ByteArray):C9 (ch3 n e)=ad5::G6 n::wIs::C9 e:=by
 have h:ch3 n e=J8 (C8 ad5++32::C8 (J8 (C8 (G6 n)++32::C8 (J8 (C8 wIs++32::C8 e))))):=by
  unfold ch3
  show J8 _=J8 ([108,105,110,101]++32::(C8 (G6 n)++32::([105,115]++32::C8 e)))
  simp
 rw[h,ay0,ay0,ay0,ap5 (a:=ad5) (by decide),ap5 (a:=wIs) (by decide),ap5 (a:=G6 n) (da9 n)]
 rfl
theorem cM8 {w:ByteArray} {l:List ByteArray} (h:O5 w=none):T9 (w::l)=none:=by unfold T9;rw[h]
theorem cz5 {w:ByteArray} {l:List ByteArray} (h:T9 l=none):T9 (w::l)=none:=by unfold T9;rw[h];split<;>simp_all
theorem ce1 {n:Int} {e:ByteArray} (h1: -1000000<n) (h2:n<1000000):A8 (ch3 n e)=if C9 e=[au8]then{E9 with kind:=6,of:=n}else if(A7 (C9 e)).kind=1 then{A7 (C9 e)with kind:=5,of:=n}else E9:=by
 unfold A8
 rw[dd7]
 have h0:A7 (ad5::G6 n::wIs::C9 e)=E9:=aN9 (cz5 (cM8 (by decide)))
 unfold ac8
 rw[if_neg (by rw[h0];decide)]
 simp only[db3 h1 h2]
 rw[if_neg (by decide),if_neg (by decide),if_pos trivial,if_neg]
 rintro(h|h)
 ·exact do1 e h
 ·exact h rfl
theorem dg1:C9 au8=[au8]:=ap5 (by decide)
theorem aR6 {n:Int} (h1: -1000000<n) (h2:n<1000000):A8 (ch3 n au8)={E9 with kind:=6,of:=n}:=by rw[ce1 h1 h2,if_pos dg1]
theorem ax3 {n:Int} {e:ByteArray} (h1: -1000000<n) (h2:n<1000000) (he:(A8 e).kind=1):A8 (ch3 n e)={A8 e with kind:=5,of:=n}:=by
 have e1:A8 e=A7 (C9 e):=bH4 (.inl he)
 rw[ce1 h1 h2,if_neg,←e1,if_pos he]
 intro hs
 rw[e1,hs]at he
 revert he
 decide
theorem dU6 {l:List F7} {x:F7} (hk:x.kind=5∨x.kind=6) (he:at5 l x.of=true):aa4 (l++[x])=(aa4 l).set x.of.toNat (av1 x)++[E9]:=by
 rw[aD5]
 unfold ak4
 rw[if_neg (by omega),if_pos ⟨hk,he⟩]
 rfl
theorem ce3 {l:List F7} {n:Int}:at5 l n=true↔0≤n∧n<(l.length:Int)∧(l.getD n.toNat E9).kind=1:=by
 unfold at5;simp[and_assoc]
theorem ee4 {l m:List F7} {n:Int} (h:n<(l.length:Int)):at5 (l++m) n=at5 l n:=by
 by_cases h0:0≤n
 ·have hl:n.toNat<l.length:=by omega
  have e:(l++m).getD n.toNat E9=l.getD n.toNat E9:=by
   rw[ff3,ff3,List.getElem?_append_left hl]
  have key:=ce3 (l:=l++m) (n:=n)
  have eG7:=ce3 (l:=l) (n:=n)
  rw[e]at key
  rw[ff4]at key
  cases h1:at5 l n with
  |true=>obtain⟨a,b,c⟩:=eG7.1 h1;exact key.2 ⟨a,by omega,c⟩
  |false=>
   cases h2:at5 (l++m) n with
   |false=>rfl
   |true=>
    obtain⟨a,b,c⟩:=key.1 h2
    rw[eG7.2 ⟨a,h,c⟩]at h1;cases h1
 ·have a1:¬at5 (l++m) n=true:=fun h=>h0 (ce3.1 h).1
  have a2:¬at5 l n=true:=fun h=>h0 (ce3.1 h).1
  simp only[Bool.not_eq_true]at a1 a2
  rw[a1,a2]
theorem df3 {l m:List F7} {n:Int} (h:at5 l n=true):at5 (l++m) n=true:=by rw[ee4 (ce3.1 h).2.1];exact h
def ba7 (t:D5) (a b:List ByteArray):Bool:=decide (V5 t a=V5 t b)&&decide (O0 t a=O0 t b)
theorem bK7 {t:D5} {a b:List ByteArray} (v:F6 t=true) (ha:a.length≤24) (hb:b.length≤24)
 (h:Z5 t (aa4 (a.map A8))=Z5 t (aa4 (b.map A8))∧aZ9 t (aa4 (a.map A8))=aZ9 t (aa4 (b.map A8))):ba7 t a b=true:=by
 unfold ba7
 rw[aK0 v ha,aK0 v hb,aS9 v ha,aS9 v hb,decide_eq_true h.1,decide_eq_true h.2];rfl
theorem bM2 {l:List ByteArray} {n:Nat} (h:n<l.length):(l.map A8).getD n E9=A8 (l.getD n ⟨#[]⟩):=by
 rw[ff3,ff3,List.getElem?_map,fg0 h];rfl
theorem eo4 {t:D5} {l:List ByteArray} {n m:Int} {a b:ByteArray} (v:F6 t=true) (hl:l.length+2≤24) (hn:at5 (l.map A8) n=true) (hm:at5 (l.map A8) m=true) (hnm:n≠m) (ha:(A8 a).kind=1) (hb:(A8 b).kind=1∨b=au8):
 ba7 t (l++[ch3 n a,ch3 m b]) (l++[ch3 m b,ch3 n a])=true:=by
 obtain⟨n0,n1,nk⟩:=ce3.1 hn
 obtain⟨m0,m1,mk⟩:=ce3.1 hm
 rw[fg5]at n1 m1
 have hA:=ax3 (n:=n) (by omega) (by omega) ha
 have hB:(A8 (ch3 m b)).of=m∧((A8 (ch3 m b)).kind=5∨(A8 (ch3 m b)).kind=6):=by
  rcases hb with hb|rfl
  ·rw[ax3 (by omega) (by omega) hb];exact⟨rfl,.inl rfl⟩
  ·rw[aR6 (by omega) (by omega)];exact⟨rfl,.inr rfl⟩
 have hA':(A8 (ch3 n a)).of=n∧((A8 (ch3 n a)).kind=5∨(A8 (ch3 n a)).kind=6):=by rw[hA];exact⟨rfl,.inl rfl⟩
 obtain⟨x,hx⟩:∃x,A8 (ch3 n a)=x:=⟨_,rfl⟩
 obtain⟨y,hy⟩:∃y,A8 (ch3 m b)=y:=⟨_,rfl⟩
 rw[hx]at hA'
 rw[hy]at hB
 have hlen:(aa4 (l.map A8)).length=l.length:=by rw[bt8,fg5]
 refine bK7 v (by simp;omega) (by simp;omega) ?_
 have e1:(l++[ch3 n a,ch3 m b]).map A8=(l.map A8++[x])++[y]:=by simp[hx,hy]
 have e2:(l++[ch3 m b,ch3 n a]).map A8=(l.map A8++[y])++[x]:=by simp[hx,hy]
 rw[e1,e2,dU6 hB.2 (by rw[hB.1];exact df3 hm),dU6 hA'.2 (by rw[hA'.1];exact hn),dU6 hA'.2 (by rw[hA'.1];exact df3 hn),dU6 hB.2 (by rw[hB.1];exact hm),hA'.1,hB.1,
  List.set_append_left _ _ (by rw[List.length_set];omega),List.set_append_left _ _ (by rw[List.length_set];omega),List.set_comm _ _ (show n.toNat≠m.toNat by omega)]
 exact⟨rfl,rfl⟩
end
section
open Go.RowKit Go.ChangeShapes Go.WideShapes Go.Deep
section
variable {H:Type} {enc:TypeId × Value→H} {W:World} {sp:Nat→Bool} {hd:Bool}
theorem dD8 {H:Type} (d:DataW H):1≤Rows.uptoBulk d:=by
 cases d with
 |lit l=>cases l<;>simp[Rows.uptoBulk]
 |nil=>simp[Rows.uptoBulk]
 |ptr d=>simp[Rows.uptoBulk]
 |slice elems spare=>simp[Rows.uptoBulk]
 |agg parts=>simp[Rows.uptoBulk]
 |iface t d=>simp[Rows.uptoBulk]
 |map entries=>simp[Rows.uptoBulk]
 |held h=>simp[Rows.uptoBulk]
theorem ce6 {H:Type} {d:DataW H} {l:List (DataW H)} (h:d∈l):Rows.uptoBulk d≤Rows.uptoBulkAll l:=by
 induction l with
 |nil=>cases h
 |cons x r ih=>
  simp only[Rows.uptoBulkAll]
  cases List.mem_cons.1 h with
  |inl e=>subst e;omega
  |inr e=>have:=ih e;omega
theorem dD9 {H:Type} (l:List (DataW H)):l.length≤Rows.uptoBulkAll l:=by
 induction l with
 |nil=>simp[Rows.uptoBulkAll]
 |cons x r ih=>have:=dD8 x;simp only[Rows.uptoBulkAll,ff8];omega
theorem dd8 {H:Type} (elems spare:List (DataW H)):Rows.uptoBulkAll elems+1≤Rows.uptoBulk (.slice elems spare):=by
 simp only[Rows.uptoBulk]
 omega
theorem de1 {n:Nat} {v:Value} {y:DataW H × List MemPlace} {xs:List ByteArray} (h:DataW.trod enc Tryz.prog W 0 sp hd n 33 [v]=some y) (hs:Sl (ad6 W) v xs):
 xs.length≤Rows.uptoBulk y.1∧∀s∈xs,s.size≤Rows.uptoBulk y.1:=by
 have hc:Tryz.prog.cellsOf 9=1:=by kernel_rfl
 obtain⟨a',c',ev,_,_⟩:=hs.form
 rcases open_slice Tryz.underlying33 h with⟨hcs,_⟩|⟨a,len,cap,m,n',D,Pl,hcs,_,hl,hm,hmm,rfl,hx⟩
 ·simp at hcs
  subst hcs
  have h0:xs.length=0:=by simp at ev;omega
  have:xs=[]:=List.length_eq_zero_iff.1 h0
  subst this
  exact⟨fh3 _,fun s hs=>by cases hs⟩
 ·simp at hcs
  subst hcs
  have h0:len=xs.length:=by simp at ev;omega
  have hlm:len≤m:=by rw[hmm];split<;>omega
  have hb:=dd8 ((List.range len).map D) ((List.range (m-len)).map fun j=>D (len+j))
  have hn:=dD9 ((List.range len).map D)
  rw[fg5,List.length_range]at hn
  refine⟨by show _≤Rows.uptoBulk (DataW.slice _ _);omega,fun s hsm=> ?_⟩
  obtain⟨k,hk⟩:=List.mem_iff_getElem?.1 hsm
  have hkl:k<xs.length:=(List.getElem?_eq_some_iff.1 hk).1
  obtain⟨b,o,c,e,_,p⟩:=hs.str (show At xs k s from hk)
  have hp:=p W (aJ9 W)
  obtain⟨cs,hcs,ht⟩:=hx k (by omega)
  obtain⟨_,hl1,hg1⟩:=World.cells?_some hcs
  rw[hc]at hl1 hg1
  have hg:=hg1 0 (by omega)
  simp at e
  obtain⟨ea,_,_⟩:=e
  subst ea
  rw[Addr.add_lit,Addr.add_lit]at hg
  obtain⟨s',rfl,ey,_⟩:=DataW.trod_string Tryz.underlying9 ht
  have dW7:W.cell? ⟨b,o+k,none⟩=some (.string s'):=by simpa [hc]using hg
  have hss:s'=s:=by rw[hp]at dW7;simpa using dW7.symm
  subst hss
  have hD:D k= .lit (.string s'.data.toList):=(Prod.mk.inj ey).1
  have h1:Rows.uptoBulk (D k)≤Rows.uptoBulkAll ((List.range len).map D):=ce6 (List.mem_map.2 ⟨k,List.mem_range.2 (by omega),rfl⟩)
  rw[hD]at h1
  have h2:s'.data.toList.length≤Rows.uptoBulk (DataW.lit (H:=H) (.string s'.data.toList)):=by simp[Rows.uptoBulk]
  have h3:s'.size=s'.data.toList.length:=rfl
  show _≤Rows.uptoBulk (DataW.slice _ _)
  omega
end
end
section
open Go.RowKit Go.ChangeShapes Go.WideShapes Go.Deep Go.Joins
section
variable {H:Type} {enc:TypeId × Value→H} {W:World} {sp:Nat→Bool} {hd:Bool}
theorem cO4:Tryz.prog.cellsOf 3=1:=by kernel_rfl
theorem cO5:Tryz.prog.cellsOf 9=1:=by kernel_rfl
theorem ec0:Tryz.prog.cellsOf 35=2:=by kernel_rfl
theorem dI6 {α:Type} {cs:Array α} (h:cs.size=2):∃a b,cs= #[a,b]:=by
 obtain⟨l⟩:=cs
 match l,h with
 |[a,b],_=>exact⟨a,b,rfl⟩
theorem eF8 {α:Type} {cs:Array α} (h:cs.size=4):∃a b c d,cs= #[a,b,c,d]:=by
 obtain⟨l⟩:=cs
 match l,h with
 |[a,b,c,d],_=>exact⟨a,b,c,d,rfl⟩
theorem co0 {r:Reach} {b0:Nat} {v:Value} {d:DataW H} {p:List MemPlace} (hv:Value.okWide Tryz.prog W r b0 78 v) (h:DataW.Trod enc Tryz.prog W 0 sp hd 78 v d p) (hw:∀k∈d.weights Tryz.prog 78,k≤reachBytes):
 ∃(q:ByteArray) (n:Int),v= .agg #[.string q,.int .i64 n]∧q.size≤140737488355328∧K8 n:=by
 obtain⟨cs,rfl,hsz⟩:=okWide_struct Tryz.underlying78 hv
 obtain⟨c0,c1,rfl⟩:=dI6 (hsz.trans (by kernel_rfl))
 obtain⟨fuel,hf⟩:=h
 obtain⟨y0,y1,n,ex,_,h0,h1⟩:=trod_struct2 Tryz.underlying78 hf
 simp only[Value.cells,cO5,cO4,ff6,ff5,List.take_succ_cons,List.take_zero]at h0 h1
 obtain⟨rfl,-⟩:=Prod.mk.inj ex
 simp only[DataW.weights,Tryz.underlying78,List.map_cons,List.map_nil,DataW.weightsEach,List.mem_append,List.append_nil]at hw
 obtain⟨q,hq,hqz⟩:=cG0 _ _ _ h0 (fun k hk=>hw k (by simp[hk]))
 obtain⟨k1,e1,_,w1⟩:=DataW.trod_int Tryz.underlying3 h1
 simp at hq e1
 subst hq;subst e1
 exact⟨q,k1,rfl,hqz,ah7 w1⟩
theorem dW9 (n:Nat) (cs:List Value) (y:DataW H × List MemPlace) (h:DataW.trod enc Tryz.prog W 0 sp hd n 35 cs=some y) (hw:∀k∈y.1.weights Tryz.prog 35,k≤reachBytes):
 ∃(q:ByteArray) (k:Int),cs=[.int .i64 k,.string q]∧q.size≤140737488355328∧K8 k:=by
 obtain⟨y0,y1,m,ex,hl,h0,h1⟩:=trod_struct2 Tryz.underlying35 h
 match cs,hl.trans (by kernel_rfl:_=2)with
 |[c0,c1],_=>
  simp only[cO4,cO5,ff6,ff5,List.take_succ_cons,List.take_zero]at h0 h1
  subst ex
  simp only[DataW.weights,Tryz.underlying35,List.map_cons,List.map_nil,DataW.weightsEach,List.mem_append,List.append_nil]at hw
  obtain⟨k0,e0,_,w0⟩:=DataW.trod_int Tryz.underlying3 h0
  obtain⟨q,hq,hqz⟩:=cG0 _ _ _ h1 (fun k hk=>hw k (by simp[hk]))
  simp at hq e0
  subst hq;subst e0
  exact⟨q,k0,rfl,hqz,ah7 w0⟩
theorem ec1 {r:Reach} {b0:Nat} {v:Value} {d:DataW H} {p:List MemPlace} (hv:Value.okWide Tryz.prog W r b0 52 v) (h:DataW.Trod enc Tryz.prog W 0 sp hd 52 v d p) (hw:∀k∈d.weights Tryz.prog 52,k≤reachBytes):
 ∃(q q2:ByteArray) (n n2:Int),v= .agg #[.int .i64 n,.string q,.int .i64 n2,.string q2]∧q.size≤140737488355328∧q2.size≤140737488355328∧K8 n∧K8 n2:=by
 obtain⟨cs,rfl,hsz⟩:=okWide_struct Tryz.underlying52 hv
 obtain⟨c0,c1,c2,c3,rfl⟩:=eF8 (hsz.trans (by kernel_rfl))
 obtain⟨fuel,hf⟩:=h
 obtain⟨y0,y1,n,ex,_,h0,h1⟩:=trod_struct2 Tryz.underlying52 hf
 simp only[Value.cells,ec0,ff6,ff5,List.take_succ_cons,List.take_zero]at h0 h1
 obtain⟨rfl,-⟩:=Prod.mk.inj ex
 simp only[DataW.weights,Tryz.underlying52,List.map_cons,List.map_nil,DataW.weightsEach,List.mem_append,List.append_nil]at hw
 obtain⟨q,k,e,z1,z2⟩:=dW9 _ _ _ h0 (fun k hk=>hw k (by simp[hk]))
 obtain⟨q2,k2,e2,z3,z4⟩:=dW9 _ _ _ h1 (fun k hk=>hw k (by simp[hk]))
 simp at e e2
 obtain⟨rfl,rfl⟩:=e
 obtain⟨rfl,rfl⟩:=e2
 exact⟨q,q2,k,k2,rfl,z1,z3,z2,z4⟩
end
end
section
open Go.RowKit
attribute [local go_sem] j4.drew j4.alloc j4.drewN WB.holds Oper.semAt_some Q9 O1 J7
theorem cH0 (vm vb vt um uo ua lv mv:Value) (t:D5) (l m:List ByteArray) (v:F6 t=true) (h1:l.length≤24) (h2:m.length≤24) (z1:∀s∈l,s.size≤900) (z2:∀s∈m,s.size≤900) (hs:ba7 t l m=true)
 (H:j5) (dr:Doors H) (w:World) (hw:j4 H w) (ht:Twn H vm vb vt um uo ua t) (hl:Sl H lv l) (hm:Sl H mv m):
 Calls Tryz.prog 22 #[ah0 vm vb vt um uo ua t,lv,mv] w (I1 w (.bool true)):=by
 unfold ba7 at hs
 rw[fh9]at hs
 have e1:=of_decide_eq_true hs.1
 have e2:=of_decide_eq_true hs.2
 have cU:=fun(H':j5) (W:World) (hW:j4 H' W) (hle:D8 H H')=>aD1 vm vb vt um uo ua lv t l v h1 z1 H' (dr.mono hle) W hW (ht.mono hle) (hl.mono hle)
 have cV:=fun(H':j5) (W:World) (hW:j4 H' W) (hle:D8 H H')=>aD1 vm vb vt um uo ua mv t m v h2 z2 H' (dr.mono hle) W hW (ht.mono hle) (hm.mono hle)
 have cS:∀(va vb:Value) (xs:List ByteArray) (H':j5) (W:World),j4 H' W→Sl H' va xs→Sl H' vb xs→Calls Tryz.prog 25 #[va,vb] W (I1 W (.bool true)):=fun va vb xs H' W hW h1 h2=>by simpa using bK5 va vb xs xs H' W hW h1 h2
 rw[←e1,←e2]at cV
 clear hs e1 e2 z1 z2 h1 h2 v
 generalize V5 t l=T at*
 generalize O0 t l=K at*
 generalize Y1 t l=A at*
 generalize Y1 t m=A2 at*
 obtain⟨al,cl,rfl,_,_⟩:=hl.form
 obtain⟨am,cm,rfl,_,_⟩:=hm.form
 replace cU:=fe6 cU
 replace cV:=fe6 cV
 replace cS:=fe6 cS
 clear hl hm ht dr
 go_enter Tryz.func22,Tryz.ntmps22
 go_upto_region 2 with(first|(refine af8 rfl _ rfl (Ext.refl hw) ?_;intro B w1 H1 hle hx hB hBw;obtain⟨hc0,hc1,hc2,hc3,hc4,O8,hc6,O9⟩:=I5 hB;clear hB hw;have hw1:=hx.holds)|(go_at_call 23;go_must (refine(cU.out _ _ hw1 hle).mono ?_);rintro e w3 ⟨_,H3,rfl,y3,va,vt',vk,rfl,sAa,⟨xm,xb,xt,xp,xq,xr,rfl,tw3⟩,sKa⟩;obtain⟨pAa,qAa,rfl,_,_⟩:=sAa.form;obtain⟨pKa,qKa,rfl,_,_⟩:=sKa.form;obtain⟨p0,pq0,rfl,_,_⟩:=tw3.h.m.form;obtain⟨p1,pq1,rfl,_,_⟩:=tw3.h.b.form;obtain⟨p2,pq2,rfl,_,_⟩:=tw3.h.t.form;obtain⟨p3,pq3,rfl,_,_⟩:=tw3.s.m.form;obtain⟨p4,pq4,rfl,_,_⟩:=tw3.s.o.form;obtain⟨p5,pq5,rfl,_,_⟩:=tw3.s.a.form))
 have x3:=hx.trans y3
 have hn_:H3 (World.heap w3).size=none:=(x3).holds.D6 (fh0 _)
 have x4:=((x3).alloc (.cells #[.slice p0 T.h.ms.length pq0,.slice p1 T.h.bs.length pq1,.slice p2 T.h.ts.length pq2,.int .i64 T.h.ch,.slice p3 T.s.mo.length pq3,.slice p4 T.s.wo.length pq4,.slice p5 T.s.wa.length pq5,.int .i64 T.s.fr] 32)).freeze (x3).below.size (heap_alloc_new w3 _)
 have l4:=j5.L9 hn_ (.cells #[.slice p0 T.h.ms.length pq0,.slice p1 T.h.bs.length pq1,.slice p2 T.h.ts.length pq2,.int .i64 T.h.ch,.slice p3 T.s.mo.length pq3,.slice p4 T.s.wo.length pq4,.slice p5 T.s.wa.length pq5,.int .i64 T.s.fr] 32 (0,0))
 have eb6:=j5.G7 H3 (World.heap w3).size (.cells #[.slice p0 T.h.ms.length pq0,.slice p1 T.h.bs.length pq1,.slice p2 T.h.ts.length pq2,.int .i64 T.h.ch,.slice p3 T.s.mo.length pq3,.slice p4 T.s.wo.length pq4,.slice p5 T.s.wa.length pq5,.int .i64 T.s.fr] 32 (0,0))
 clear hn_
 generalize j5.put H3 (World.heap w3).size (.cells #[.slice p0 T.h.ms.length pq0,.slice p1 T.h.bs.length pq1,.slice p2 T.h.ts.length pq2,.int .i64 T.h.ch,.slice p3 T.s.mo.length pq3,.slice p4 T.s.wo.length pq4,.slice p5 T.s.wa.length pq5,.int .i64 T.s.fr] 32 (0,0))=H4 at*
 generalize World.alloc w3 (.cells #[.slice p0 T.h.ms.length pq0,.slice p1 T.h.bs.length pq1,.slice p2 T.h.ts.length pq2,.int .i64 T.h.ch,.slice p3 T.s.mo.length pq3,.slice p4 T.s.wo.length pq4,.slice p5 T.s.wa.length pq5,.int .i64 T.s.fr] 32)=w4 at*
 generalize(World.heap w3).size=C at*
 have l14:D8 H1 H4:=(y3.le hw1).trans l4
 have bd9:=hle.trans l14
 have twA:=tw3.mono l4
 replace sKa:=sKa.mono l4
 obtain⟨d0,d1,d2,d3,d4,d5,d6,d7⟩:=I5 (t:=T) eb6
 replace hc0:=lift l14 hc0
 replace hc1:=lift l14 hc1
 replace hc2:=lift l14 hc2
 replace hc3:=lift l14 hc3
 replace hc4:=lift l14 hc4
 replace O8:=lift l14 O8
 replace hc6:=lift l14 hc6
 replace O9:=lift l14 O9
 have hw4:=x4.holds
 clear x3 y3 hw1 hx tw3 sAa eb6 l14 l4 cU
 go_upto_region 3 with(go_at_call 23;go_must (refine(cV.out _ _ hw4 bd9).mono ?_);rintro e w6 ⟨_,H6,rfl,y6,va,vt',vk,rfl,sAb,⟨xm,xb,xt,xp,xq,xr,rfl,tw6⟩,sKb⟩;obtain⟨pAb,qAb,rfl,_,_⟩:=sAb.form;obtain⟨pKb,qKb,rfl,_,_⟩:=sKb.form;obtain⟨r0,rq0,rfl,_,_⟩:=tw6.h.m.form;obtain⟨r1,rq1,rfl,_,_⟩:=tw6.h.b.form;obtain⟨r2,rq2,rfl,_,_⟩:=tw6.h.t.form;obtain⟨r3,rq3,rfl,_,_⟩:=tw6.s.m.form;obtain⟨r4,rq4,rfl,_,_⟩:=tw6.s.o.form;obtain⟨r5,rq5,rfl,_,_⟩:=tw6.s.a.form)
 have x6:=x4.trans y6
 have hn_:H6 (World.heap w6).size=none:=(x6).holds.D6 (fh0 _)
 have x7:=((x6).alloc (.cells #[.slice r0 T.h.ms.length rq0,.slice r1 T.h.bs.length rq1,.slice r2 T.h.ts.length rq2,.int .i64 T.h.ch,.slice r3 T.s.mo.length rq3,.slice r4 T.s.wo.length rq4,.slice r5 T.s.wa.length rq5,.int .i64 T.s.fr] 32)).freeze (x6).below.size (heap_alloc_new w6 _)
 have l7:=j5.L9 hn_ (.cells #[.slice r0 T.h.ms.length rq0,.slice r1 T.h.bs.length rq1,.slice r2 T.h.ts.length rq2,.int .i64 T.h.ch,.slice r3 T.s.mo.length rq3,.slice r4 T.s.wo.length rq4,.slice r5 T.s.wa.length rq5,.int .i64 T.s.fr] 32 (0,0))
 have eb7:=j5.G7 H6 (World.heap w6).size (.cells #[.slice r0 T.h.ms.length rq0,.slice r1 T.h.bs.length rq1,.slice r2 T.h.ts.length rq2,.int .i64 T.h.ch,.slice r3 T.s.mo.length rq3,.slice r4 T.s.wo.length rq4,.slice r5 T.s.wa.length rq5,.int .i64 T.s.fr] 32 (0,0))
 clear hn_
 generalize j5.put H6 (World.heap w6).size (.cells #[.slice r0 T.h.ms.length rq0,.slice r1 T.h.bs.length rq1,.slice r2 T.h.ts.length rq2,.int .i64 T.h.ch,.slice r3 T.s.mo.length rq3,.slice r4 T.s.wo.length rq4,.slice r5 T.s.wa.length rq5,.int .i64 T.s.fr] 32 (0,0))=H7 at*
 generalize World.alloc w6 (.cells #[.slice r0 T.h.ms.length rq0,.slice r1 T.h.bs.length rq1,.slice r2 T.h.ts.length rq2,.int .i64 T.h.ch,.slice r3 T.s.mo.length rq3,.slice r4 T.s.wo.length rq4,.slice r5 T.s.wa.length rq5,.int .i64 T.s.fr] 32)=w7 at*
 generalize(World.heap w6).size=D at*
 have l47:D8 H4 H7:=(y6.le hw4).trans l7
 have twB:=tw6.mono l7
 replace twA:=twA.mono l47
 replace sKa:=sKa.mono l47
 replace sKb:=sKb.mono l7
 obtain⟨g0,g1,g2,g3,g4,g5,g6,g7⟩:=I5 (t:=T) eb7
 replace d0:=lift l47 d0
 replace d1:=lift l47 d1
 replace d2:=lift l47 d2
 replace d3:=lift l47 d3
 replace d4:=lift l47 d4
 replace d5:=lift l47 d5
 replace d6:=lift l47 d6
 replace d7:=lift l47 d7
 have cA:=fun(W:World) (hW:j4 H7 W)=>aU4 _ _ _ _ _ _ _ _ _ _ _ _ T H7 W hW twA twB
 replace cA:=fe6 cA
 have hw7:=x7.holds
 clear x6 y6 x4 hw4 tw6 eb7 l47 l7 cV hc0 hc1 hc2 hc3 hc4 O8 hc6 O9 twA twB sAb
 go_wp2_with(first|(go_at_call 24;go_must (refine(cA.out _ hw7).mono ?_);rintro e w8 ⟨rfl,hb8⟩;have x8:=x7.step (hb8.mono x7.below.size) (hw7.below hb8);have hw8:=x8.holds)|(go_at_call 25;go_must (refine(cS.out _ _ K _ _ hw8 sKa sKb).mono ?_);rintro e w9 ⟨rfl,hb9⟩;have x9:=x8.step (hb9.mono x8.below.size) (hw8.below hb9)))
 go_ret
 exact⟨rfl,x9.below⟩
theorem cr3 (lv:Value) (l:List ByteArray) (n:Int) (hnI:K8 n) (hsz:∀s∈l,s.size≤1100000) (H:j5) (w:World) (hw:j4 H w) (hl:Sl H lv l):
 Calls Tryz.prog 15 #[lv,.int .i64 n] w (I1 w (.bool (at5 (l.map A8) n))):=by
 obtain⟨al,cl,rfl,hl1,hl2⟩:=hl.form
 obtain⟨V,hV⟩:∃V,Hid (at5 (l.map A8) n=V):=⟨_,rfl⟩
 rw[hV.out]
 cases hwi:within n 0 ((l.length:Int)-1)
 ·have hv:V=false:=by
   rw[←hV.out]
   unfold at5
   unfold within at hwi
   simp at hwi ⊢
   intro h1 h2
   omega
  subst hv
  clear hV
  go_enter Tryz.func15,Tryz.ntmps15
  go_wp2_with(first|((go_at_call 26;refine(aD4 _ _ _ _).mono ?_;rintro e w5 ⟨rfl,rfl⟩;rw[hwi])))
  go_ret
  exact⟨rfl,Below.refl _ _⟩
 ·obtain⟨n0,n1⟩:0≤n∧n≤(l.length:Int)-1:=by unfold within at hwi;simpa using hwi
  obtain⟨N,rfl⟩:∃N:Nat,n=(N:Int):=⟨n.toNat,by omega⟩
  have hN:N<l.length:=by omega
  obtain⟨z,hz⟩:=At.mk hN
  have hk:=fun(W:World) (hW:j4 H W)=>aI0 z (hsz z hz.mem) H W hW
  have hv:V=decide ((A8 z).kind=1):=by
   rw[←hV.out]
   unfold at5
   rw[fh8,bM2 hN,ff3,show l[N]? =some z from hz,decide_eq_true (show(0:Int)≤(N:Int)by omega),decide_eq_true (show(N:Int)<((l.map A8).length:Int)by rw[fg5];omega)]
   rfl
  obtain⟨b1,o1,c1,hez,hszz,p1⟩:=hl.str hz
  cases hez
  have hN0:(0:Int)≤(N:Int):=by omega
  have hN1:(N:Int)<(l.length:Int):=by omega
  have hN2:(N:Int)≤(l.length:Int)-1:=by omega
  generalize(A8 z).kind=K at*
  replace hk:=fe6 hk
  replace hv:=fe6 hv
  clear hV hz n0 n1 hnI
  by_cases h1:K=1
  ·subst h1
   go_enter Tryz.func15,Tryz.ntmps15
   go_wp2_with(first|((go_at_call 26;refine(aD4 _ _ _ _).mono ?_;rintro e w5 ⟨rfl,rfl⟩;rw[hwi]))|((go_at_call 16;go_must (refine(hk.out _ hw).mono ?_);rintro e w4 ⟨rfl,hb4⟩)))
   go_ret
   exact⟨M0 (by rw[hv.out];rfl),hb4⟩
  ·go_enter Tryz.func15,Tryz.ntmps15
   go_wp2_with(first|((go_at_call 26;refine(aD4 _ _ _ _).mono ?_;rintro e w5 ⟨rfl,rfl⟩;rw[hwi]))|((go_at_call 16;go_must (refine(hk.out _ hw).mono ?_);rintro e w4 ⟨rfl,hb4⟩)))
   go_ret
   exact⟨M0 (by rw[hv.out];simp[h1]),hb4⟩
end
section
open Go.RowKit
attribute [local go_sem] j4.drew j4.alloc j4.drewN WB.holds Oper.semAt_some
def eA5 (xs ys:List ByteArray):Nat→List ByteArray
 |0=>[]
 |1=>xs
 |_=>xs++ys
theorem bG7 (va vb:Value) (xs ys:List ByteArray) (hx:xs.length≤2000000) (hy:ys.length≤2000000) (H:j5) (w:World) (hw:j4 H w) (h1:Sl H va xs) (h2:Sl H vb ys) (b:Nat)
 (d0:∀W,j4 H W→W.cell? ⟨b,0,none⟩=some va) (d1:∀W,j4 H W→W.cell? ⟨b,1,none⟩=some vb):
 Calls Tryz.prog 19 #[.slice (some ⟨b,0,none⟩) 2 2] w (Post w H fun u H'=>Sl H' u (xs++ys)):=by
 obtain⟨a1,c1,rfl,_,_⟩:=h1.form
 obtain⟨a2,c2,rfl,_,_⟩:=h2.form
 have aX9:Hid ((([]:List ByteArray).length+xs.length)*Enc.M4 ByteArray≤140737488355328):=by show _≤_;simp only[Enc.M4,fg1];omega
 have aH8:Hid (([]:List ByteArray).length+xs.length≤9223372036854775807):=by show _≤_;simp only[fg1];omega
 have eA6:Hid ((xs.length+ys.length)*Enc.M4 ByteArray≤140737488355328):=by show _≤_;simp only[Enc.M4];omega
 have eA7:Hid (xs.length+ys.length≤9223372036854775807):=by show _≤_;omega
 replace hx:=fe6 hx
 replace hy:=fe6 hy
 go_enter Tryz.func19,Tryz.ntmps19
 go_wp2_with fail
 go_loopw [3,4] (fun v i wr=>∃(k:Nat),k≤2∧i= .int .i64 (k:Int)∧Own H w.heap.size wr 9 v (eA5 xs ys k)∧Ext w H wr H) (fun v i _=>2-(intOf i).toNat)
 case atStart=>exact⟨0,by omega,rfl,Own.nil _ _ _ _,Ext.refl hw⟩
 case round=>
  obtain⟨k,hk,rfl,o,x⟩:=hrel
  have hwr:=x.holds
  match k,hk,o with
  |0,_,o=>
   replace o:Own H w.heap.size wr 9 _ ([]:List ByteArray):=o
   go_wp2_with(at_builtin;go_must (refine aj2 (w0:=w) (H0:=H) bi0 rfl _ _ rfl x rfl o rfl h1 aX9.out aH8.out ?_);intro v3 w3 o3 x3 hw3 g3;rw[ff9]at o3)
   go_roundw
   case rel=>exact⟨1,by omega,rfl,o3,x3⟩
   case measure=>simp[intOf]
  |1,_,o=>
   replace o:Own H w.heap.size wr 9 _ xs:=o
   go_wp2_with(at_builtin;go_must (refine aj2 (w0:=w) (H0:=H) bi0 rfl _ _ rfl x rfl o rfl h2 eA6.out eA7.out ?_);intro v3 w3 o3 x3 hw3 g3)
   go_roundw
   case rel=>exact⟨2,by omega,rfl,o3,x3⟩
   case measure=>simp[intOf]
  |2,_,o=>
   replace o:Own H w.heap.size wr 9 _ (xs++ys):=o
   obtain⟨H4,x5,l5,s5,_⟩:=o.close x
   go_wp2_with fail
   go_ret
   exact⟨_,H4,rfl,x5,s5⟩
end
section
open Go.RowKit
theorem bn8 {w0 w:World} {H0 H:j5} (hx:Ext w0 H0 w H) (a b:Value) (T:TypeId):
 ∃H2,D8 H H2∧Ext w0 H0 (w.alloc (.cells #[a,b] T)) H2∧(∀W,j4 H2 W→W.cell? ⟨w.heap.size,0,none⟩=some a)∧∀W,j4 H2 W→W.cell? ⟨w.heap.size,1,none⟩=some b:=by
 have hn:=hx.holds.D6 (fh0 w.heap.size)
 have hp:=j5.G7 H w.heap.size (.cells #[a,b] T (0,0))
 exact⟨_,j5.L9 hn _,(hx.alloc _).freeze hx.below.size (heap_alloc_new w _),fun W hW=>(D7 hp hW 0).trans rfl,fun W hW=>(D7 hp hW 1).trans rfl⟩
end
section
open Go.RowKit
attribute [local go_sem] j4.drew j4.alloc j4.drewN WB.holds Oper.semAt_some
theorem cr0 {n:Int} (h0:0≤n) (h1:n≤9999999):(G6 n).size≤7:=by
 obtain⟨k,rfl⟩:=Int.eq_ofNat_of_zero_le h0
 show(Lib.itoa (k:Int)).length≤7
 rw[ay2];exact aI6 _ 6 (by omega)
theorem by8 (n:Int) (e:ByteArray) (he:e.size≤900) (h1:0≤n) (h2:n≤9999999) (w:World):
 Calls Tryz.prog 20 #[.int .i64 n,.string e] w (I1 w (.string (ch3 n e))):=by
 have ht:=fe6 (bL9 n (by omega) (by omega))
 have hz:(G6 n).size≤7:=cr0 h1 h2
 have hE:Hid ((⟨#[108,105,110,101,32]⟩:ByteArray)++G6 n++⟨#[32,105,115,32]⟩++e=ch3 n e):=dw9 n e
 generalize G6 n=T at*
 go_enter Tryz.func20,Tryz.ntmps20
 go_wp2_with(first|(go_at_call 41;refine(ht.out _).mono ?_;rintro e w4 ⟨rfl,hb4⟩))
 go_ret
 exact⟨by rw[←hE.out];rfl,hb4⟩
theorem dM6 {n:Int} {e:ByteArray} (h1:0≤n) (h2:n≤9999999) (he:e.size≤40):(ch3 n e).size≤56:=by
 rw[←dw9,ByteArray.size_append,ByteArray.size_append,ByteArray.size_append]
 have:=cr0 h1 h2
 show 5+_+4+_≤_
 omega
end
section
open Go.RowKit
attribute [local go_sem] j4.drew j4.alloc j4.drewN WB.holds Oper.semAt_some Q9 O1 J7
theorem bN1 {w0 w:World} {H0 H:j5} (hx:Ext w0 H0 w H) {a b:ByteArray} (ha:∀x∈[a,b],x.size≤1000000):
 ∃H2,D8 H H2∧Ext w0 H0 (w.alloc (.cells #[.string a,.string b] 9)) H2∧Sl H2 (.slice (some ⟨w.heap.size,0,none⟩) 2 2) [a,b]:=
 aN5 hx [a,b] ha (by simp)
theorem dR3 (vm vb vt um uo ua lv:Value) (t:D5) (l:List ByteArray) (a b:ByteArray) (n m:Int) (H:j5) (dr:Doors H) (w:World) (hw:j4 H w) (ht:Twn H vm vb vt um uo ua t) (hl:Sl H lv l) (hza:a.size≤140737488355328) (hzb:b.size≤140737488355328) (hnI:K8 n) (hmI:K8 m)
 (hll:l.length≤1100000) (hsz:∀s∈l,s.size≤1100000):
 Calls Tryz.prog 7 #[ah0 vm vb vt um uo ua t,lv,.agg #[.int .i64 n,.string a,.int .i64 m,.string b]] w (I1 w (.bool true)):=by
 clear hza hzb
 have cW:=fun(H':j5) (W:World) (hW:j4 H' W) (hle:D8 H H')=>aO6 H' (dr.mono hle) W hW
 replace cW:=fe6 cW
 have cI:=fun(H':j5) (W:World) (hW:j4 H' W) (hle:D8 H H')=>cr3 lv l n hnI hsz H' W hW (hl.mono hle)
 have cM:=fun(H':j5) (W:World) (hW:j4 H' W) (hle:D8 H H')=>cr3 lv l m hmI hsz H' W hW (hl.mono hle)
 obtain⟨al,cl,rfl,hl1,hl2⟩:=hl.form
 replace ht:=fe6 ht
 replace dr:=fe6 dr
 replace hl:=fe6 hl
 replace hsz:=fe6 hsz
 replace cI:=fe6 cI
 replace cM:=fe6 cM
 go_enter Tryz.func7,Tryz.ntmps7
 go_upto_region 1 with(first|(have hgd:=hx;refine af8 rfl _ rfl hx ?_;intro C w2 H2 hle2 hx2 hC hCw;have g0:∀W,j4 H2 W→W.cell? ⟨C,0,none⟩=some (.int .i64 n):=fun W hW=>D7 hC hW 0;have g1:∀W,j4 H2 W→W.cell? ⟨C,1,none⟩=some (.string a):=fun W hW=>D7 hC hW 1;have g2:∀W,j4 H2 W→W.cell? ⟨C,2,none⟩=some (.int .i64 m):=fun W hW=>D7 hC hW 2;have g3:∀W,j4 H2 W→W.cell? ⟨C,3,none⟩=some (.string b):=fun W hW=>D7 hC hW 3;replace hc0:=lift hle2 hc0;replace hc1:=lift hle2 hc1;replace hc2:=lift hle2 hc2;replace hc3:=lift hle2 hc3;replace hc4:=lift hle2 hc4;replace O8:=lift hle2 O8;replace hc6:=lift hle2 hc6;replace O9:=lift hle2 O9;replace hle:=hle.trans hle2;clear hC hx hw1 hle2;have hw2:=hx2.holds)|(refine af8 rfl _ rfl (Ext.refl hw) ?_;intro B w1 H1 hle hx hB hBw;obtain⟨hc0,hc1,hc2,hc3,hc4,O8,hc6,O9⟩:=I5 hB;clear hB hw;have hw1:=hx.holds))
 replace ht:=ht.out
 replace dr:=dr.out
 replace hl:=hl.out
 replace hsz:=hsz.out
 replace cI:=cI.out
 replace cM:=cM.out
 by_cases hE:(40:Int)<(a.size:Int)∨(¬(40:Int)<(a.size:Int)∧((40:Int)<(b.size:Int)∨(¬(40:Int)<(b.size:Int)∧(n=m∨(n≠m∧(at5 (l.map A8) n=false∨(at5 (l.map A8) n=true∧(at5 (l.map A8) m=false∨(at5 (l.map A8) m=true∧(A8 a).kind≠1)))))))))
 ·have cKa:=fun(hz:¬(40:Int)<(a.size:Int)) (H':j5) (W:World) (hW:j4 H' W)=>aI0 a (by omega) H' W hW
  generalize(A8 a).kind=Ka at*
  generalize at5 (l.map A8) n=bI at*
  generalize at5 (l.map A8) m=bM at*
  rcases hE with za|⟨za,zb|⟨zb,hnm|⟨hnm,hI|⟨hI,hM|⟨hM,ka⟩⟩⟩⟩⟩
  all_goals
   (try subst hI)
   (try subst hM)
   (try subst hnm)
   (try have t1:(n==m)=false:=beq_eq_false_iff_ne.2 hnm)
   replace cKa:=fe6 cKa
   replace cI:=fe6 cI
   replace cM:=fe6 cM
   clear ht dr hsz hll
   go_wp2_with(first|((have hgd:=hw2;clear hgd;go_at_call 15;go_must (refine(cI.out _ _ hw2 hle).mono ?_);rintro e w3 ⟨rfl,hb3⟩;have x3:=hx2.step (hb3.mono hx2.below.size) (hw2.below hb3);have hw3:=x3.holds;clear hw2))|((have hgd:=hw3;clear hgd;go_at_call 15;go_must (refine(cM.out _ _ hw3 hle).mono ?_);rintro e w4 ⟨rfl,hb4⟩;have x4:=x3.step (hb4.mono x3.below.size) (hw3.below hb4);have hw4:=x4.holds;clear hw3))|((have hgd:=hw4;clear hgd;go_at_call 16;go_must (refine(cKa.out za _ _ hw4).mono ?_);rintro e w5 ⟨rfl,hb5⟩;have x5:=x4.step (hb5.mono x4.below.size) (hw4.below hb5);have hw5:=x5.holds;clear hw4))|((go_at_call 18;first|(refine(cW.out _ _ x6.holds hle).mono ?_;rintro e wz ⟨rfl,hbz⟩;have xz:=x6.step (hbz.mono x6.below.size) (x6.holds.below hbz))|(refine(cW.out _ _ x5.holds hle).mono ?_;rintro e wz ⟨rfl,hbz⟩;have xz:=x5.step (hbz.mono x5.below.size) (x5.holds.below hbz))|(refine(cW.out _ _ x4.holds hle).mono ?_;rintro e wz ⟨rfl,hbz⟩;have xz:=x4.step (hbz.mono x4.below.size) (x4.holds.below hbz))|(refine(cW.out _ _ x3.holds hle).mono ?_;rintro e wz ⟨rfl,hbz⟩;have xz:=x3.step (hbz.mono x3.below.size) (x3.holds.below hbz))|(refine(cW.out _ _ hx2.holds hle).mono ?_;rintro e wz ⟨rfl,hbz⟩;have xz:=hx2.step (hbz.mono hx2.below.size) (hx2.holds.below hbz)))))
   go_ret
   exact⟨rfl,xz.below⟩
 have za:¬(40:Int)<(a.size:Int):=fun h=>hE (.inl h)
 have zb:¬(40:Int)<(b.size:Int):=fun h=>hE (.inr ⟨za,.inl h⟩)
 have hnm:n≠m:=fun h=>hE (.inr ⟨za,.inr ⟨zb,.inl h⟩⟩)
 have hI:at5 (l.map A8) n=true:=by
  cases h:at5 (l.map A8) n
  ·exact absurd (.inr ⟨za,.inr ⟨zb,.inr ⟨hnm,.inl h⟩⟩⟩) hE
  ·rfl
 have hM:at5 (l.map A8) m=true:=by
  cases h:at5 (l.map A8) m
  ·exact absurd (.inr ⟨za,.inr ⟨zb,.inr ⟨hnm,.inr ⟨hI,.inl h⟩⟩⟩⟩) hE
  ·rfl
 have ka:(A8 a).kind=1:=Decidable.byContradiction fun h=>hE (.inr ⟨za,.inr ⟨zb,.inr ⟨hnm,.inr ⟨hI,.inr ⟨hM,h⟩⟩⟩⟩⟩)
 clear hE
 have t1:(n==m)=false:=beq_eq_false_iff_ne.2 hnm
 have cKa:=fun(H':j5) (W:World) (hW:j4 H' W)=>aI0 a (by omega) H' W hW
 have cKb:=fun(H':j5) (W:World) (hW:j4 H' W)=>aI0 b (by omega) H' W hW
 rw[hI]at cI
 rw[hM]at cM
 rw[ka]at cKa
 replace cI:=fe6 cI
 replace cM:=fe6 cM
 replace cKa:=fe6 cKa
 by_cases hE:(A8 b).kind≠1∧b≠au8
 ·obtain⟨kb,nb⟩:=hE
  have tN:(b.toList==[110,111,116])=false:=j6 nb
  generalize(A8 b).kind=Kb at*
  replace cKb:=fe6 cKb
  clear ht dr hsz hll ka hI hM
  go_wp2_with(first|((have hgd:=hw2;clear hgd;go_at_call 15;go_must (refine(cI.out _ _ hw2 hle).mono ?_);rintro e w3 ⟨rfl,hb3⟩;have x3:=hx2.step (hb3.mono hx2.below.size) (hw2.below hb3);have hw3:=x3.holds;clear hw2))|((have hgd:=hw3;clear hgd;go_at_call 15;go_must (refine(cM.out _ _ hw3 hle).mono ?_);rintro e w4 ⟨rfl,hb4⟩;have x4:=x3.step (hb4.mono x3.below.size) (hw3.below hb4);have hw4:=x4.holds;clear hw3))|((have hgd:=hw4;clear hgd;go_at_call 16;go_must (refine(cKa.out _ _ hw4).mono ?_);rintro e w5 ⟨rfl,hb5⟩;have x5:=x4.step (hb5.mono x4.below.size) (hw4.below hb5);have hw5:=x5.holds;clear hw4))|((have hgd:=hw5;clear hgd;go_at_call 16;go_must (refine(cKb.out _ _ hw5).mono ?_);rintro e w6 ⟨rfl,hb6⟩;have x6:=x5.step (hb6.mono x5.below.size) (hw5.below hb6);have hw6:=x6.holds;clear hw5))|((go_at_call 18;first|(refine(cW.out _ _ x6.holds hle).mono ?_;rintro e wz ⟨rfl,hbz⟩;have xz:=x6.step (hbz.mono x6.below.size) (x6.holds.below hbz))|(refine(cW.out _ _ x5.holds hle).mono ?_;rintro e wz ⟨rfl,hbz⟩;have xz:=x5.step (hbz.mono x5.below.size) (x5.holds.below hbz))|(refine(cW.out _ _ x4.holds hle).mono ?_;rintro e wz ⟨rfl,hbz⟩;have xz:=x4.step (hbz.mono x4.below.size) (x4.holds.below hbz))|(refine(cW.out _ _ x3.holds hle).mono ?_;rintro e wz ⟨rfl,hbz⟩;have xz:=x3.step (hbz.mono x3.below.size) (x3.holds.below hbz))|(refine(cW.out _ _ hx2.holds hle).mono ?_;rintro e wz ⟨rfl,hbz⟩;have xz:=hx2.step (hbz.mono hx2.below.size) (hx2.holds.below hbz)))))
  go_ret
  exact⟨rfl,xz.below⟩
 have kb:(A8 b).kind=1∨b=au8:=Decidable.byContradiction fun h=>hE ⟨fun h1=>h (.inl h1),fun h2=>h (.inr h2)⟩
 clear hE
 obtain⟨n0,n1,nk⟩:=ce3.1 hI
 obtain⟨m0,m1,mk⟩:=ce3.1 hM
 rw[fg5]at n1 m1
 have law:=fun(v:F6 t=true) (h:l.length+2≤24)=>eo4 v h hI hM hnm ka kb
 have cLa:=by8 n a (by omega) n0 (by omega)
 have cLb:=by8 m b (by omega) m0 (by omega)
 have fk6:(ch3 n a).size≤56:=dM6 n0 (by omega) (by omega)
 have fk7:(ch3 m b).size≤56:=dM6 m0 (by omega) (by omega)
 have tB:Hid ((A8 b).kind=1∨(A8 b).kind≠1∧(b.toList==[110,111,116])=true):=fe6 (by
  by_cases h:(A8 b).kind=1
  ·exact .inl h
  ·exact .inr ⟨h,G8 (kb.resolve_left h)⟩)
 clear nk mk kb
 generalize(A8 b).kind=Kb at*
 generalize ch3 n a=S1 at*
 generalize ch3 m b=S2 at*
 have A_z:∀x∈[S1,S2],x.size≤1000000:=fun x hx=>by simp at hx;rcases hx with h|h<;>(rw[h];omega)
 have B_z:∀x∈[S2,S1],x.size≤1000000:=fun x hx=>by simp at hx;rcases hx with h|h<;>(rw[h];omega)
 have cJ:=fun(q:List ByteArray) (hq:q.length≤2) (vb:Value) (H':j5) (W:World) (hW:j4 H' W) (hle:D8 H H') (h2:Sl H' vb q) (b:Nat) (d0:∀W,j4 H' W→W.cell? ⟨b,0,none⟩=some (.slice al l.length cl)) (d1:∀W,j4 H' W→W.cell? ⟨b,1,none⟩=some vb)=>bG7 (.slice al l.length cl) vb l q (by omega) (by omega) H' W hW (hl.mono hle) h2 b d0 d1
 have cJA:=cJ [S1,S2] (by simp)
 have cJB:=cJ [S2,S1] (by simp)
 have cY:=fun(lv:Value) (H':j5) (W:World) (hW:j4 H' W) (hle:D8 H H') (h2:Sl H' lv (l++[S1,S2]))=>aA3 vm vb vt um uo ua lv t (l++[S1,S2]) H' W hW (ht.mono hle) h2
 have cE:aF8 t (l++[S1,S2])=true→_:=fun hr=>
  have R:=aL3.1 hr
  have hln:l.length+2≤24:=by have:=R.n;rw[ff4]at this;exact this
  have hz:=fun(q:List ByteArray) (hq:∀s∈q,s.size≤1000000∧s.size≤56) (s:ByteArray) (hs:s∈l++q)=>show s.size≤900 from by
   rcases List.mem_append.1 hs with h|h
   ·have:=R.z s (List.mem_append.2 (.inl h));omega
   ·have:=(hq s h).2;omega
  fun(lv mv:Value) (H':j5) (W:World) (hW:j4 H' W) (hle:D8 H H') (h1':Sl H' lv (l++[S1,S2])) (h2':Sl H' mv (l++[S2,S1]))=>cH0 vm vb vt um uo ua lv mv t (l++[S1,S2]) (l++[S2,S1]) R.v (by simp;omega) (by simp;omega) (hz _ (fun s hs=>⟨A_z s hs,by simp at hs;rcases hs with h|h<;>(rw[h];assumption)⟩)) (hz _ (fun s hs=>⟨B_z s hs,by simp at hs;rcases hs with h|h<;>(rw[h];assumption)⟩)) (law R.v hln) H' (dr.mono hle) W hW (ht.mono hle) h1' h2'
 obtain⟨r2,hr2⟩:∃r2,aF8 t (l++[S1,S2])=r2:=⟨_,rfl⟩
 rw[hr2]at cY cE
 clear law cJ
 generalize l++[S1,S2]=LA at*
 generalize l++[S2,S1]=LB at*
 replace cKb:=fe6 cKb
 replace cLa:=fe6 cLa
 replace cLb:=fe6 cLb
 replace cJA:=fe6 cJA
 replace cJB:=fe6 cJB
 replace cY:=fe6 cY
 replace cE:=fe6 cE
 replace A_z:=fe6 A_z
 replace B_z:=fe6 B_z
 clear ht dr hsz hll hl fk6 fk7 hI hM ka n0 n1 m0 m1 hr2 hnI hmI hnm
 go_upto_region 3 with(first|(have hgd:=hw2;clear hgd;go_at_call 15;go_must (refine(cI.out _ _ hw2 hle).mono ?_);rintro e w3 ⟨rfl,hb3⟩;have x3:=hx2.step (hb3.mono hx2.below.size) (hw2.below hb3);have hw3:=x3.holds;clear hw2)|(have hgd:=hw3;clear hgd;go_at_call 15;go_must (refine(cM.out _ _ hw3 hle).mono ?_);rintro e w4 ⟨rfl,hb4⟩;have x4:=x3.step (hb4.mono x3.below.size) (hw3.below hb4);have hw4:=x4.holds;clear hw3)|(have hgd:=hw4;clear hgd;go_at_call 16;go_must (refine(cKa.out _ _ hw4).mono ?_);rintro e w5 ⟨rfl,hb5⟩;have x5:=x4.step (hb5.mono x4.below.size) (hw4.below hb5);have hw5:=x5.holds;clear hw4))
 clear cI cM cKa
 go_cut [64] (fun v wx=>v= .bool false∧Ext w H wx H2)
 case first=>
  rcases tB.out with tb|⟨kb,tb⟩
  ·subst tb
   go_wp2_with(first|(have hgd:=hw5;clear hgd;go_at_call 16;go_must (refine(cKb.out _ _ hw5).mono ?_);rintro e w6 ⟨rfl,hb6⟩;have x6:=x5.step (hb6.mono x5.below.size) (hw5.below hb6);have hw6:=x6.holds;clear hw5))
   go_meet
   exact⟨rfl,x6⟩
  ·go_wp2_with(first|(have hgd:=hw5;clear hgd;go_at_call 16;go_must (refine(cKb.out _ _ hw5).mono ?_);rintro e w6 ⟨rfl,hb6⟩;have x6:=x5.step (hb6.mono x5.below.size) (hw5.below hb6);have hw6:=x6.holds;clear hw5))
   go_meet
   exact⟨rfl,x6⟩
 case rest=>
  obtain⟨rfl,x6⟩:=hcut
  have hw6:=x6.holds
  clear x3 x4 x5 hx2 hw5 hb3 hb4 hb5 cKb tB t1
  go_upto_region 5 with fail
  refine E8 H2 (by kernel_rfl) (by kernel_rfl) hw6 (fun hne=> ?_)
  repeat go_big_quiet_step((first|(go_at_call 20;exact Calls.am7 (cLa.out _))|(go_at_call 20;exact Calls.am7 (cLb.out _))))
  refine wpQuiet_nil ?_
  rintro⟨w2,hw2,hb2⟩
  clear hne
  have x7:=x6.step (hb2.mono x6.below.size) (hw6.below hb2)
  have hw7:=x7.holds
  clear cLa cLb
  go_upto_region 6 with fail
  go_cut [88] (fun v wx=>v= .bool (!r2)∧∃Hx,Ext w H wx Hx∧D8 H2 Hx)
  case first=>
   refine U1 (S:=(fun w'=>j4 H2 w')) 8 (by kernel_rfl) (by kernel_rfl) ?_ (fun N9=> ?_)
   ·(try dsimp only)
    (first|assumption|exact j4.drew ‹_›|exact j4.alloc ‹_› _)
   simp only[ff8,fg1,fh6,fh7,fg9,fg8,fg3,ff9,fg2]
   have xk0:=x7.drew
   have lk0:D8 H2 H2:=D8.refl _
   generalize World.drew w2=wk0 at*
   refine hdA 0 ?_
   refine hdA 1 ?_
   refine hdA 2 ?_
   refine hdA 3 ?_
   (try simp only[Act.put,fe7,ff1,ff2])
   refine hdR 4 [] (fun K hK=> ?_) r9.nil
   go_simp
   obtain⟨Gka,lq,y,sA⟩:=bN1 (Ext.refl xk0.holds) A_z.out
   generalize World.alloc wk0 (.cells #[.string S1,.string S2] 9)=eN5 at*
   generalize(World.heap wk0).size=gA at*
   have eo5:=xk0.trans y
   have lka:=lk0.trans lq
   have kk:=eo5.holds.mono lka
   clear y lq
   refine hK.out _ _ kk (fun I4=> ?_)
   clear hK K N9
   (try simp only[Act.put,fe7,ff1,ff2])
   refine hdR 5 [] (fun K hK=> ?_) r9.nil
   go_simp
   obtain⟨fD0,lq,y,eA,fA⟩:=bn8 (Ext.refl eo5.holds) (.slice al (List.length l) cl) (.slice (some ⟨gA,0,none⟩) 2 2) 33
   replace sA:=sA.mono lq
   generalize World.alloc eN5 (.cells #[.slice al (List.length l) cl,.slice (some ⟨gA,0,none⟩) 2 2] 33)=fC1 at*
   generalize(World.heap eN5).size=rA at*
   have dE5:=eo5.trans y
   have eo6:=lka.trans lq
   have kk:=dE5.holds.mono eo6
   clear y lq
   refine hK.out _ _ kk (fun F8=> ?_)
   clear hK K I4
   (try simp only[Act.put,fe7,ff1,ff2])
   refine hdR 6 [] (fun K hK=> ?_) r9.nil
   go_simp
   go_at_call 19
   go_must (refine(cJA.out _ _ _ dE5.holds (hle.trans eo6) sA _ eA fA).mono ?_)
   rintro e fA9 ⟨_,fC2,rfl,y,sA⟩
   obtain⟨pA,qA,rfl,_,_⟩:=sA.form
   have lq:=y.le dE5.holds
   have cI0:=dE5.trans y
   have dE6:=eo6.trans lq
   have kk:=cI0.holds.mono dE6
   clear y lq
   refine hK.out _ _ kk (fun F9=> ?_)
   clear hK K F8
   (try simp only[Act.put,fe7,ff1,ff2])
   refine hdR 7 [] (fun K hK=> ?_) r9.nil
   go_simp
   go_at_call 17
   go_must (refine(cY.out _ _ _ cI0.holds (hle.trans dE6) sA).mono ?_)
   rintro e fm8 ⟨rfl,hb⟩
   have ea8:=cI0.step (hb.mono cI0.below.size) (cI0.holds.below hb)
   have kk:=ea8.holds.mono dE6
   clear hb
   refine hK.out _ _ kk (fun I7=> ?_)
   clear hK K F9
   (try simp only[Act.put,fe7,ff1,ff2])
   refine G9 (by kernel_rfl) ?_
   simp only[ff5,ff6]
   go_wp2_with fail
   go_meet
   exact⟨rfl,_,ea8,dE6⟩
  case rest=>
   obtain⟨rfl,ah9,x8,l8⟩:=hcut
   have hw8:=x8.holds
   replace hc0:=lift l8 hc0
   replace hc1:=lift l8 hc1
   replace hc2:=lift l8 hc2
   replace hc3:=lift l8 hc3
   replace hc4:=lift l8 hc4
   replace O8:=lift l8 O8
   replace hc6:=lift l8 hc6
   replace O9:=lift l8 O9
   replace g0:=lift l8 g0
   replace g1:=lift l8 g1
   replace g2:=lift l8 g2
   replace g3:=lift l8 g3
   replace hle:=hle.trans l8
   clear x7 hw7 cY l8
   cases r2
   ·go_wp2_with(go_at_call 18;(refine(cW.out _ _ x8.holds hle).mono ?_;rintro e wz ⟨rfl,hbz⟩;have xz:=x8.step (hbz.mono x8.below.size) (x8.holds.below hbz)))
    go_ret
    exact⟨rfl,xz.below⟩
   replace cE:=fe6 (cE.out rfl)
   go_upto_region 8 with fail
   refine U1 (S:=(fun w'=>j4 ah9 w')) 17 (by kernel_rfl) (by kernel_rfl) ?_ (fun N9=> ?_)
   ·(try dsimp only)
    (first|assumption|exact j4.drew ‹_›|exact j4.alloc ‹_› _)
   simp only[ff8,fg1,fh6,fh7,fg9,fg8,fg3,ff9,fg2]
   have xm0:=x8.drew
   have lm0:D8 ah9 ah9:=D8.refl _
   generalize World.drew wc=wm0 at*
   refine hdA 0 ?_
   refine hdA 1 ?_
   refine hdA 2 ?_
   refine hdA 3 ?_
   refine hdA 7 ?_
   refine hdA 8 ?_
   refine hdA 9 ?_
   (try simp only[Act.put,fe7,ff1,ff2])
   refine hdR 4 [10] (fun K hK=> ?_) ?_
   ·go_simp
    obtain⟨Gma,lq,y,sA⟩:=bN1 (Ext.refl xm0.holds) A_z.out
    generalize World.alloc wm0 (.cells #[.string S1,.string S2] 9)=ec2 at*
    generalize(World.heap wm0).size=gA at*
    have dO2:=xm0.trans y
    have lma:=lm0.trans lq
    have kk:=dO2.holds.mono lma
    clear y lq
    refine hK.out _ _ kk (fun I4=> ?_)
    clear hK K N9
    (try simp only[Act.put,fe7,ff1,ff2])
    refine hdR 5 [10] (fun K hK=> ?_) ?_
    ·go_simp
     obtain⟨fD1,lq,y,eA,fA⟩:=bn8 (Ext.refl dO2.holds) (.slice al (List.length l) cl) (.slice (some ⟨gA,0,none⟩) 2 2) 33
     replace sA:=sA.mono lq
     generalize World.alloc ec2 (.cells #[.slice al (List.length l) cl,.slice (some ⟨gA,0,none⟩) 2 2] 33)=eF1 at*
     generalize(World.heap ec2).size=rA at*
     have cI1:=dO2.trans y
     have ec3:=lma.trans lq
     have kk:=cI1.holds.mono ec3
     clear y lq
     refine hK.out _ _ kk (fun F8=> ?_)
     clear hK K I4
     (try simp only[Act.put,fe7,ff1,ff2])
     refine hdR 6 [10] (fun K hK=> ?_) ?_
     ·go_simp
      go_at_call 19
      go_must (refine(cJA.out _ _ _ cI1.holds (hle.trans ec3) sA _ eA fA).mono ?_)
      rintro e en3 ⟨_,fC3,rfl,y,sA⟩
      obtain⟨pA,qA,rfl,_,_⟩:=sA.form
      have lq:=y.le cI1.holds
      have dO8:=cI1.trans y
      have eF2:=ec3.trans lq
      have kk:=dO8.holds.mono eF2
      clear y lq
      refine hK.out _ _ kk (fun F9=> ?_)
      clear hK K F8
      (try simp only[Act.put,fe7,ff1,ff2])
      refine hdR 10 [] (fun K hK=> ?_) r9.nil
      go_simp
      obtain⟨fB0,lq,y,sB⟩:=bN1 (Ext.refl dO8.holds) B_z.out
      generalize World.alloc en3 (.cells #[.string S2,.string S1] 9)=ea9 at*
      generalize(World.heap en3).size=gB at*
      replace sA:=sA.mono lq
      have dl5:=dO8.trans y
      have en4:=eF2.trans lq
      have kk:=dl5.holds.mono en4
      clear y lq
      refine hK.out _ _ kk (fun I7=> ?_)
      clear hK K F9
      (try simp only[Act.put,fe7,ff1,ff2])
      refine hdR 11 [] (fun K hK=> ?_) r9.nil
      go_simp
      obtain⟨fm9,lq,y,eB,fB⟩:=bn8 (Ext.refl dl5.holds) (.slice al (List.length l) cl) (.slice (some ⟨gB,0,none⟩) 2 2) 33
      replace sB:=sB.mono lq
      generalize World.alloc ea9 (.cells #[.slice al (List.length l) cl,.slice (some ⟨gB,0,none⟩) 2 2] 33)=fk8 at*
      generalize(World.heap ea9).size=rB at*
      replace sA:=sA.mono lq
      have bZ3:=dl5.trans y
      have dl6:=en4.trans lq
      have kk:=bZ3.holds.mono dl6
      clear y lq
      refine hK.out _ _ kk (fun aa1=> ?_)
      clear hK K I7
      (try simp only[Act.put,fe7,ff1,ff2])
      refine hdR 12 [] (fun K hK=> ?_) r9.nil
      go_simp
      go_at_call 19
      go_must (refine(cJB.out _ _ _ bZ3.holds (hle.trans dl6) sB _ eB fB).mono ?_)
      rintro e fj6 ⟨_,fk9,rfl,y,sB⟩
      obtain⟨pB,qB,rfl,_,_⟩:=sB.form
      have lq:=y.le bZ3.holds
      replace sA:=sA.mono lq
      have bc7:=bZ3.trans y
      have by1:=dl6.trans lq
      have kk:=bc7.holds.mono by1
      clear y lq
      refine hK.out _ _ kk (fun bS4=> ?_)
      clear hK K aa1
      (try simp only[Act.put,fe7,ff1,ff2])
      refine hdR 13 [] (fun K hK=> ?_) r9.nil
      go_simp
      go_at_call 22
      go_must (refine(cE.out _ _ _ _ bc7.holds (hle.trans by1) sA sB).mono ?_)
      rintro e eO9 ⟨rfl,hb⟩
      have aS1:=bc7.step (hb.mono bc7.below.size) (bc7.holds.below hb)
      have kk:=aS1.holds.mono by1
      clear hb
      refine hK.out _ _ kk (fun an4=> ?_)
      clear hK K bS4
      refine hdA 14 ?_
      (try simp only[Act.put,fe7,ff1,ff2])
      refine hdR 15 [] (fun K hK=> ?_) r9.nil
      go_simp
      go_at_call 18
      go_must (refine(cW.out _ _ aS1.holds (hle.trans by1)).mono ?_)
      rintro e eN9 ⟨rfl,hb⟩
      have cK3:=aS1.step (hb.mono aS1.below.size) (aS1.holds.below hb)
      have kk:=cK3.holds.mono by1
      clear hb
      refine hK.out _ _ kk (fun aW3=> ?_)
      clear hK K an4
      refine hdA 16 ?_
      (try simp only[Act.put,fe7,ff1,ff2])
      refine G9 (by kernel_rfl) ?_
      simp only[ff5,ff6]
      go_wp2_with fail
      go_ret
      exact⟨rfl,cK3.below⟩
     refine r9.cons (by simp only[ff0,fe9,fe8]<;>rfl) (fun K hK=> ?_) ?_
     ·go_simp
      obtain⟨fC4,lq,y,sB⟩:=bN1 (Ext.refl cI1.holds) B_z.out
      generalize World.alloc eF1 (.cells #[.string S2,.string S1] 9)=en5 at*
      generalize(World.heap eF1).size=gB at*
      replace sA:=sA.mono lq
      replace eA:=lift lq eA
      replace fA:=lift lq fA
      have bS2:=cI1.trans y
      have dE7:=ec3.trans lq
      have kk:=bS2.holds.mono dE7
      clear y lq
      refine hK.out _ _ kk (fun F9=> ?_)
      clear hK K F8
      (try simp only[Act.put,fe7,ff1,ff2])
      refine hdR 6 [11] (fun K hK=> ?_) ?_
      ·go_simp
       go_at_call 19
       go_must (refine(cJA.out _ _ _ bS2.holds (hle.trans dE7) sA _ eA fA).mono ?_)
       rintro e eb0 ⟨_,fB1,rfl,y,sA⟩
       obtain⟨pA,qA,rfl,_,_⟩:=sA.form
       have lq:=y.le bS2.holds
       replace sB:=sB.mono lq
       have dl7:=bS2.trans y
       have en6:=dE7.trans lq
       have kk:=dl7.holds.mono en6
       clear y lq
       refine hK.out _ _ kk (fun I7=> ?_)
       clear hK K F9
       (try simp only[Act.put,fe7,ff1,ff2])
       refine hdR 11 [] (fun K hK=> ?_) r9.nil
       go_simp
       obtain⟨fn1,lq,y,eB,fB⟩:=bn8 (Ext.refl dl7.holds) (.slice al (List.length l) cl) (.slice (some ⟨gB,0,none⟩) 2 2) 33
       replace sB:=sB.mono lq
       generalize World.alloc eb0 (.cells #[.slice al (List.length l) cl,.slice (some ⟨gB,0,none⟩) 2 2] 33)=fl0 at*
       generalize(World.heap eb0).size=rB at*
       replace sA:=sA.mono lq
       have bZ4:=dl7.trans y
       have dl8:=en6.trans lq
       have kk:=bZ4.holds.mono dl8
       clear y lq
       refine hK.out _ _ kk (fun aa1=> ?_)
       clear hK K I7
       (try simp only[Act.put,fe7,ff1,ff2])
       refine hdR 12 [] (fun K hK=> ?_) r9.nil
       go_simp
       go_at_call 19
       go_must (refine(cJB.out _ _ _ bZ4.holds (hle.trans dl8) sB _ eB fB).mono ?_)
       rintro e fj7 ⟨_,fl1,rfl,y,sB⟩
       obtain⟨pB,qB,rfl,_,_⟩:=sB.form
       have lq:=y.le bZ4.holds
       replace sA:=sA.mono lq
       have be6:=bZ4.trans y
       have by3:=dl8.trans lq
       have kk:=be6.holds.mono by3
       clear y lq
       refine hK.out _ _ kk (fun bS4=> ?_)
       clear hK K aa1
       (try simp only[Act.put,fe7,ff1,ff2])
       refine hdR 13 [] (fun K hK=> ?_) r9.nil
       go_simp
       go_at_call 22
       go_must (refine(cE.out _ _ _ _ be6.holds (hle.trans by3) sA sB).mono ?_)
       rintro e eP0 ⟨rfl,hb⟩
       have aX4:=be6.step (hb.mono be6.below.size) (be6.holds.below hb)
       have kk:=aX4.holds.mono by3
       clear hb
       refine hK.out _ _ kk (fun an4=> ?_)
       clear hK K bS4
       refine hdA 14 ?_
       (try simp only[Act.put,fe7,ff1,ff2])
       refine hdR 15 [] (fun K hK=> ?_) r9.nil
       go_simp
       go_at_call 18
       go_must (refine(cW.out _ _ aX4.holds (hle.trans by3)).mono ?_)
       rintro e eO0 ⟨rfl,hb⟩
       have cK9:=aX4.step (hb.mono aX4.below.size) (aX4.holds.below hb)
       have kk:=cK9.holds.mono by3
       clear hb
       refine hK.out _ _ kk (fun aW3=> ?_)
       clear hK K an4
       refine hdA 16 ?_
       (try simp only[Act.put,fe7,ff1,ff2])
       refine G9 (by kernel_rfl) ?_
       simp only[ff5,ff6]
       go_wp2_with fail
       go_ret
       exact⟨rfl,cK9.below⟩
      refine r9.cons (by simp only[ff0,fe9,fe8]<;>rfl) (fun K hK=> ?_) ?_
      ·go_simp
       obtain⟨fB2,lq,y,eB,fB⟩:=bn8 (Ext.refl bS2.holds) (.slice al (List.length l) cl) (.slice (some ⟨gB,0,none⟩) 2 2) 33
       replace sB:=sB.mono lq
       generalize World.alloc en5 (.cells #[.slice al (List.length l) cl,.slice (some ⟨gB,0,none⟩) 2 2] 33)=fn2 at*
       generalize(World.heap en5).size=rB at*
       replace sA:=sA.mono lq
       replace eA:=lift lq eA
       replace fA:=lift lq fA
       have cI2:=bS2.trans y
       have dP1:=dE7.trans lq
       have kk:=cI2.holds.mono dP1
       clear y lq
       refine hK.out _ _ kk (fun I7=> ?_)
       clear hK K F9
       (try simp only[Act.put,fe7,ff1,ff2])
       refine hdR 6 [] (fun K hK=> ?_) r9.nil
       go_simp
       go_at_call 19
       go_must (refine(cJA.out _ _ _ cI2.holds (hle.trans dP1) sA _ eA fA).mono ?_)
       rintro e fl2 ⟨_,fn3,rfl,y,sA⟩
       obtain⟨pA,qA,rfl,_,_⟩:=sA.form
       have lq:=y.le cI2.holds
       replace sB:=sB.mono lq
       replace eB:=lift lq eB
       replace fB:=lift lq fB
       have bZ9:=cI2.trans y
       have dl9:=dP1.trans lq
       have kk:=bZ9.holds.mono dl9
       clear y lq
       refine hK.out _ _ kk (fun aa1=> ?_)
       clear hK K I7
       (try simp only[Act.put,fe7,ff1,ff2])
       refine hdR 12 [] (fun K hK=> ?_) r9.nil
       go_simp
       go_at_call 19
       go_must (refine(cJB.out _ _ _ bZ9.holds (hle.trans dl9) sB _ eB fB).mono ?_)
       rintro e fj8 ⟨_,fl3,rfl,y,sB⟩
       obtain⟨pB,qB,rfl,_,_⟩:=sB.form
       have lq:=y.le bZ9.holds
       replace sA:=sA.mono lq
       have bg1:=bZ9.trans y
       have by4:=dl9.trans lq
       have kk:=bg1.holds.mono by4
       clear y lq
       refine hK.out _ _ kk (fun bS4=> ?_)
       clear hK K aa1
       (try simp only[Act.put,fe7,ff1,ff2])
       refine hdR 13 [] (fun K hK=> ?_) r9.nil
       go_simp
       go_at_call 22
       go_must (refine(cE.out _ _ _ _ bg1.holds (hle.trans by4) sA sB).mono ?_)
       rintro e eP1 ⟨rfl,hb⟩
       have aX5:=bg1.step (hb.mono bg1.below.size) (bg1.holds.below hb)
       have kk:=aX5.holds.mono by4
       clear hb
       refine hK.out _ _ kk (fun an4=> ?_)
       clear hK K bS4
       refine hdA 14 ?_
       (try simp only[Act.put,fe7,ff1,ff2])
       refine hdR 15 [] (fun K hK=> ?_) r9.nil
       go_simp
       go_at_call 18
       go_must (refine(cW.out _ _ aX5.holds (hle.trans by4)).mono ?_)
       rintro e eO1 ⟨rfl,hb⟩
       have cP1:=aX5.step (hb.mono aX5.below.size) (aX5.holds.below hb)
       have kk:=cP1.holds.mono by4
       clear hb
       refine hK.out _ _ kk (fun aW3=> ?_)
       clear hK K an4
       refine hdA 16 ?_
       (try simp only[Act.put,fe7,ff1,ff2])
       refine G9 (by kernel_rfl) ?_
       simp only[ff5,ff6]
       go_wp2_with fail
       go_ret
       exact⟨rfl,cP1.below⟩
      exact r9.nil
     exact r9.nil
    refine r9.cons (by simp only[ff0,fe9,fe8]<;>rfl) (fun K hK=> ?_) ?_
    ·go_simp
     obtain⟨fD2,lq,y,sB⟩:=bN1 (Ext.refl dO2.holds) B_z.out
     generalize World.alloc ec2 (.cells #[.string S2,.string S1] 9)=dE8 at*
     generalize(World.heap ec2).size=gB at*
     replace sA:=sA.mono lq
     have dk6:=dO2.trans y
     have eo7:=lma.trans lq
     have kk:=dk6.holds.mono eo7
     clear y lq
     refine hK.out _ _ kk (fun F8=> ?_)
     clear hK K I4
     (try simp only[Act.put,fe7,ff1,ff2])
     refine hdR 5 [11] (fun K hK=> ?_) ?_
     ·go_simp
      obtain⟨fC5,lq,y,eA,fA⟩:=bn8 (Ext.refl dk6.holds) (.slice al (List.length l) cl) (.slice (some ⟨gA,0,none⟩) 2 2) 33
      replace sA:=sA.mono lq
      generalize World.alloc dE8 (.cells #[.slice al (List.length l) cl,.slice (some ⟨gA,0,none⟩) 2 2] 33)=en7 at*
      generalize(World.heap dE8).size=rA at*
      replace sB:=sB.mono lq
      have bS3:=dk6.trans y
      have dE9:=eo7.trans lq
      have kk:=bS3.holds.mono dE9
      clear y lq
      refine hK.out _ _ kk (fun F9=> ?_)
      clear hK K F8
      (try simp only[Act.put,fe7,ff1,ff2])
      refine hdR 6 [11] (fun K hK=> ?_) ?_
      ·go_simp
       go_at_call 19
       go_must (refine(cJA.out _ _ _ bS3.holds (hle.trans dE9) sA _ eA fA).mono ?_)
       rintro e eb2 ⟨_,fB3,rfl,y,sA⟩
       obtain⟨pA,qA,rfl,_,_⟩:=sA.form
       have lq:=y.le bS3.holds
       replace sB:=sB.mono lq
       have dx9:=bS3.trans y
       have en8:=dE9.trans lq
       have kk:=dx9.holds.mono en8
       clear y lq
       refine hK.out _ _ kk (fun I7=> ?_)
       clear hK K F9
       (try simp only[Act.put,fe7,ff1,ff2])
       refine hdR 11 [] (fun K hK=> ?_) r9.nil
       go_simp
       obtain⟨fn4,lq,y,eB,fB⟩:=bn8 (Ext.refl dx9.holds) (.slice al (List.length l) cl) (.slice (some ⟨gB,0,none⟩) 2 2) 33
       replace sB:=sB.mono lq
       generalize World.alloc eb2 (.cells #[.slice al (List.length l) cl,.slice (some ⟨gB,0,none⟩) 2 2] 33)=fl4 at*
       generalize(World.heap eb2).size=rB at*
       replace sA:=sA.mono lq
       have cb4:=dx9.trans y
       have dy1:=en8.trans lq
       have kk:=cb4.holds.mono dy1
       clear y lq
       refine hK.out _ _ kk (fun aa1=> ?_)
       clear hK K I7
       (try simp only[Act.put,fe7,ff1,ff2])
       refine hdR 12 [] (fun K hK=> ?_) r9.nil
       go_simp
       go_at_call 19
       go_must (refine(cJB.out _ _ _ cb4.holds (hle.trans dy1) sB _ eB fB).mono ?_)
       rintro e fj9 ⟨_,fl5,rfl,y,sB⟩
       obtain⟨pB,qB,rfl,_,_⟩:=sB.form
       have lq:=y.le cb4.holds
       replace sA:=sA.mono lq
       have bg2:=cb4.trans y
       have by5:=dy1.trans lq
       have kk:=bg2.holds.mono by5
       clear y lq
       refine hK.out _ _ kk (fun bS4=> ?_)
       clear hK K aa1
       (try simp only[Act.put,fe7,ff1,ff2])
       refine hdR 13 [] (fun K hK=> ?_) r9.nil
       go_simp
       go_at_call 22
       go_must (refine(cE.out _ _ _ _ bg2.holds (hle.trans by5) sA sB).mono ?_)
       rintro e eP2 ⟨rfl,hb⟩
       have aY0:=bg2.step (hb.mono bg2.below.size) (bg2.holds.below hb)
       have kk:=aY0.holds.mono by5
       clear hb
       refine hK.out _ _ kk (fun an4=> ?_)
       clear hK K bS4
       refine hdA 14 ?_
       (try simp only[Act.put,fe7,ff1,ff2])
       refine hdR 15 [] (fun K hK=> ?_) r9.nil
       go_simp
       go_at_call 18
       go_must (refine(cW.out _ _ aY0.holds (hle.trans by5)).mono ?_)
       rintro e eO2 ⟨rfl,hb⟩
       have cP2:=aY0.step (hb.mono aY0.below.size) (aY0.holds.below hb)
       have kk:=cP2.holds.mono by5
       clear hb
       refine hK.out _ _ kk (fun aW3=> ?_)
       clear hK K an4
       refine hdA 16 ?_
       (try simp only[Act.put,fe7,ff1,ff2])
       refine G9 (by kernel_rfl) ?_
       simp only[ff5,ff6]
       go_wp2_with fail
       go_ret
       exact⟨rfl,cP2.below⟩
      refine r9.cons (by simp only[ff0,fe9,fe8]<;>rfl) (fun K hK=> ?_) ?_
      ·go_simp
       obtain⟨fB4,lq,y,eB,fB⟩:=bn8 (Ext.refl bS3.holds) (.slice al (List.length l) cl) (.slice (some ⟨gB,0,none⟩) 2 2) 33
       replace sB:=sB.mono lq
       generalize World.alloc en7 (.cells #[.slice al (List.length l) cl,.slice (some ⟨gB,0,none⟩) 2 2] 33)=fn5 at*
       generalize(World.heap en7).size=rB at*
       replace sA:=sA.mono lq
       replace eA:=lift lq eA
       replace fA:=lift lq fA
       have cI3:=bS3.trans y
       have dP4:=dE9.trans lq
       have kk:=cI3.holds.mono dP4
       clear y lq
       refine hK.out _ _ kk (fun I7=> ?_)
       clear hK K F9
       (try simp only[Act.put,fe7,ff1,ff2])
       refine hdR 6 [] (fun K hK=> ?_) r9.nil
       go_simp
       go_at_call 19
       go_must (refine(cJA.out _ _ _ cI3.holds (hle.trans dP4) sA _ eA fA).mono ?_)
       rintro e fl6 ⟨_,fn6,rfl,y,sA⟩
       obtain⟨pA,qA,rfl,_,_⟩:=sA.form
       have lq:=y.le cI3.holds
       replace sB:=sB.mono lq
       replace eB:=lift lq eB
       replace fB:=lift lq fB
       have cb6:=cI3.trans y
       have dy6:=dP4.trans lq
       have kk:=cb6.holds.mono dy6
       clear y lq
       refine hK.out _ _ kk (fun aa1=> ?_)
       clear hK K I7
       (try simp only[Act.put,fe7,ff1,ff2])
       refine hdR 12 [] (fun K hK=> ?_) r9.nil
       go_simp
       go_at_call 19
       go_must (refine(cJB.out _ _ _ cb6.holds (hle.trans dy6) sB _ eB fB).mono ?_)
       rintro e fk0 ⟨_,fl7,rfl,y,sB⟩
       obtain⟨pB,qB,rfl,_,_⟩:=sB.form
       have lq:=y.le cb6.holds
       replace sA:=sA.mono lq
       have bg6:=cb6.trans y
       have by6:=dy6.trans lq
       have kk:=bg6.holds.mono by6
       clear y lq
       refine hK.out _ _ kk (fun bS4=> ?_)
       clear hK K aa1
       (try simp only[Act.put,fe7,ff1,ff2])
       refine hdR 13 [] (fun K hK=> ?_) r9.nil
       go_simp
       go_at_call 22
       go_must (refine(cE.out _ _ _ _ bg6.holds (hle.trans by6) sA sB).mono ?_)
       rintro e eP3 ⟨rfl,hb⟩
       have aY3:=bg6.step (hb.mono bg6.below.size) (bg6.holds.below hb)
       have kk:=aY3.holds.mono by6
       clear hb
       refine hK.out _ _ kk (fun an4=> ?_)
       clear hK K bS4
       refine hdA 14 ?_
       (try simp only[Act.put,fe7,ff1,ff2])
       refine hdR 15 [] (fun K hK=> ?_) r9.nil
       go_simp
       go_at_call 18
       go_must (refine(cW.out _ _ aY3.holds (hle.trans by6)).mono ?_)
       rintro e eO3 ⟨rfl,hb⟩
       have cR1:=aY3.step (hb.mono aY3.below.size) (aY3.holds.below hb)
       have kk:=cR1.holds.mono by6
       clear hb
       refine hK.out _ _ kk (fun aW3=> ?_)
       clear hK K an4
       refine hdA 16 ?_
       (try simp only[Act.put,fe7,ff1,ff2])
       refine G9 (by kernel_rfl) ?_
       simp only[ff5,ff6]
       go_wp2_with fail
       go_ret
       exact⟨rfl,cR1.below⟩
      exact r9.nil
     refine r9.cons (by simp only[ff0,fe9,fe8]<;>rfl) (fun K hK=> ?_) ?_
     ·go_simp
      obtain⟨fC6,lq,y,eB,fB⟩:=bn8 (Ext.refl dk6.holds) (.slice al (List.length l) cl) (.slice (some ⟨gB,0,none⟩) 2 2) 33
      replace sB:=sB.mono lq
      generalize World.alloc dE8 (.cells #[.slice al (List.length l) cl,.slice (some ⟨gB,0,none⟩) 2 2] 33)=en9 at*
      generalize(World.heap dE8).size=rB at*
      replace sA:=sA.mono lq
      have dP5:=dk6.trans y
      have eF3:=eo7.trans lq
      have kk:=dP5.holds.mono eF3
      clear y lq
      refine hK.out _ _ kk (fun F9=> ?_)
      clear hK K F8
      (try simp only[Act.put,fe7,ff1,ff2])
      refine hdR 5 [] (fun K hK=> ?_) r9.nil
      go_simp
      obtain⟨fB5,lq,y,eA,fA⟩:=bn8 (Ext.refl dP5.holds) (.slice al (List.length l) cl) (.slice (some ⟨gA,0,none⟩) 2 2) 33
      replace sA:=sA.mono lq
      generalize World.alloc en9 (.cells #[.slice al (List.length l) cl,.slice (some ⟨gA,0,none⟩) 2 2] 33)=fn8 at*
      generalize(World.heap en9).size=rA at*
      replace sB:=sB.mono lq
      replace eB:=lift lq eB
      replace fB:=lift lq fB
      have cI4:=dP5.trans y
      have dP6:=eF3.trans lq
      have kk:=cI4.holds.mono dP6
      clear y lq
      refine hK.out _ _ kk (fun I7=> ?_)
      clear hK K F9
      (try simp only[Act.put,fe7,ff1,ff2])
      refine hdR 6 [] (fun K hK=> ?_) r9.nil
      go_simp
      go_at_call 19
      go_must (refine(cJA.out _ _ _ cI4.holds (hle.trans dP6) sA _ eA fA).mono ?_)
      rintro e fl8 ⟨_,fn9,rfl,y,sA⟩
      obtain⟨pA,qA,rfl,_,_⟩:=sA.form
      have lq:=y.le cI4.holds
      replace sB:=sB.mono lq
      replace eB:=lift lq eB
      replace fB:=lift lq fB
      have cb7:=cI4.trans y
      have dy9:=dP6.trans lq
      have kk:=cb7.holds.mono dy9
      clear y lq
      refine hK.out _ _ kk (fun aa1=> ?_)
      clear hK K I7
      (try simp only[Act.put,fe7,ff1,ff2])
      refine hdR 12 [] (fun K hK=> ?_) r9.nil
      go_simp
      go_at_call 19
      go_must (refine(cJB.out _ _ _ cb7.holds (hle.trans dy9) sB _ eB fB).mono ?_)
      rintro e fk1 ⟨_,fl9,rfl,y,sB⟩
      obtain⟨pB,qB,rfl,_,_⟩:=sB.form
      have lq:=y.le cb7.holds
      replace sA:=sA.mono lq
      have bg9:=cb7.trans y
      have by7:=dy9.trans lq
      have kk:=bg9.holds.mono by7
      clear y lq
      refine hK.out _ _ kk (fun bS4=> ?_)
      clear hK K aa1
      (try simp only[Act.put,fe7,ff1,ff2])
      refine hdR 13 [] (fun K hK=> ?_) r9.nil
      go_simp
      go_at_call 22
      go_must (refine(cE.out _ _ _ _ bg9.holds (hle.trans by7) sA sB).mono ?_)
      rintro e eP4 ⟨rfl,hb⟩
      have aY4:=bg9.step (hb.mono bg9.below.size) (bg9.holds.below hb)
      have kk:=aY4.holds.mono by7
      clear hb
      refine hK.out _ _ kk (fun an4=> ?_)
      clear hK K bS4
      refine hdA 14 ?_
      (try simp only[Act.put,fe7,ff1,ff2])
      refine hdR 15 [] (fun K hK=> ?_) r9.nil
      go_simp
      go_at_call 18
      go_must (refine(cW.out _ _ aY4.holds (hle.trans by7)).mono ?_)
      rintro e eO4 ⟨rfl,hb⟩
      have cY2:=aY4.step (hb.mono aY4.below.size) (aY4.holds.below hb)
      have kk:=cY2.holds.mono by7
      clear hb
      refine hK.out _ _ kk (fun aW3=> ?_)
      clear hK K an4
      refine hdA 16 ?_
      (try simp only[Act.put,fe7,ff1,ff2])
      refine G9 (by kernel_rfl) ?_
      simp only[ff5,ff6]
      go_wp2_with fail
      go_ret
      exact⟨rfl,cY2.below⟩
     exact r9.nil
    exact r9.nil
   refine r9.cons (by simp only[ff0,fe9,fe8]<;>rfl) (fun K hK=> ?_) ?_
   ·go_simp
    obtain⟨Gmb,lq,y,sB⟩:=bN1 (Ext.refl xm0.holds) B_z.out
    generalize World.alloc wm0 (.cells #[.string S2,.string S1] 9)=ec5 at*
    generalize(World.heap wm0).size=gB at*
    have dP7:=xm0.trans y
    have lmb:=lm0.trans lq
    have kk:=dP7.holds.mono lmb
    clear y lq
    refine hK.out _ _ kk (fun I4=> ?_)
    clear hK K N9
    (try simp only[Act.put,fe7,ff1,ff2])
    refine hdR 4 [11] (fun K hK=> ?_) ?_
    ·go_simp
     obtain⟨fD3,lq,y,sA⟩:=bN1 (Ext.refl dP7.holds) A_z.out
     generalize World.alloc ec5 (.cells #[.string S1,.string S2] 9)=dF1 at*
     generalize(World.heap ec5).size=gA at*
     replace sB:=sB.mono lq
     have dk8:=dP7.trans y
     have eo8:=lmb.trans lq
     have kk:=dk8.holds.mono eo8
     clear y lq
     refine hK.out _ _ kk (fun F8=> ?_)
     clear hK K I4
     (try simp only[Act.put,fe7,ff1,ff2])
     refine hdR 5 [11] (fun K hK=> ?_) ?_
     ·go_simp
      obtain⟨fC7,lq,y,eA,fA⟩:=bn8 (Ext.refl dk8.holds) (.slice al (List.length l) cl) (.slice (some ⟨gA,0,none⟩) 2 2) 33
      replace sA:=sA.mono lq
      generalize World.alloc dF1 (.cells #[.slice al (List.length l) cl,.slice (some ⟨gA,0,none⟩) 2 2] 33)=eo0 at*
      generalize(World.heap dF1).size=rA at*
      replace sB:=sB.mono lq
      have bZ1:=dk8.trans y
      have dF2:=eo8.trans lq
      have kk:=bZ1.holds.mono dF2
      clear y lq
      refine hK.out _ _ kk (fun F9=> ?_)
      clear hK K F8
      (try simp only[Act.put,fe7,ff1,ff2])
      refine hdR 6 [11] (fun K hK=> ?_) ?_
      ·go_simp
       go_at_call 19
       go_must (refine(cJA.out _ _ _ bZ1.holds (hle.trans dF2) sA _ eA fA).mono ?_)
       rintro e eb4 ⟨_,fB6,rfl,y,sA⟩
       obtain⟨pA,qA,rfl,_,_⟩:=sA.form
       have lq:=y.le bZ1.holds
       replace sB:=sB.mono lq
       have dz0:=bZ1.trans y
       have eo1:=dF2.trans lq
       have kk:=dz0.holds.mono eo1
       clear y lq
       refine hK.out _ _ kk (fun I7=> ?_)
       clear hK K F9
       (try simp only[Act.put,fe7,ff1,ff2])
       refine hdR 11 [] (fun K hK=> ?_) r9.nil
       go_simp
       obtain⟨fo0,lq,y,eB,fB⟩:=bn8 (Ext.refl dz0.holds) (.slice al (List.length l) cl) (.slice (some ⟨gB,0,none⟩) 2 2) 33
       replace sB:=sB.mono lq
       generalize World.alloc eb4 (.cells #[.slice al (List.length l) cl,.slice (some ⟨gB,0,none⟩) 2 2] 33)=fm0 at*
       generalize(World.heap eb4).size=rB at*
       replace sA:=sA.mono lq
       have cb9:=dz0.trans y
       have dz3:=eo1.trans lq
       have kk:=cb9.holds.mono dz3
       clear y lq
       refine hK.out _ _ kk (fun aa1=> ?_)
       clear hK K I7
       (try simp only[Act.put,fe7,ff1,ff2])
       refine hdR 12 [] (fun K hK=> ?_) r9.nil
       go_simp
       go_at_call 19
       go_must (refine(cJB.out _ _ _ cb9.holds (hle.trans dz3) sB _ eB fB).mono ?_)
       rintro e fk2 ⟨_,fm1,rfl,y,sB⟩
       obtain⟨pB,qB,rfl,_,_⟩:=sB.form
       have lq:=y.le cb9.holds
       replace sA:=sA.mono lq
       have bh0:=cb9.trans y
       have bC6:=dz3.trans lq
       have kk:=bh0.holds.mono bC6
       clear y lq
       refine hK.out _ _ kk (fun bS4=> ?_)
       clear hK K aa1
       (try simp only[Act.put,fe7,ff1,ff2])
       refine hdR 13 [] (fun K hK=> ?_) r9.nil
       go_simp
       go_at_call 22
       go_must (refine(cE.out _ _ _ _ bh0.holds (hle.trans bC6) sA sB).mono ?_)
       rintro e eP5 ⟨rfl,hb⟩
       have aY5:=bh0.step (hb.mono bh0.below.size) (bh0.holds.below hb)
       have kk:=aY5.holds.mono bC6
       clear hb
       refine hK.out _ _ kk (fun an4=> ?_)
       clear hK K bS4
       refine hdA 14 ?_
       (try simp only[Act.put,fe7,ff1,ff2])
       refine hdR 15 [] (fun K hK=> ?_) r9.nil
       go_simp
       go_at_call 18
       go_must (refine(cW.out _ _ aY5.holds (hle.trans bC6)).mono ?_)
       rintro e eO5 ⟨rfl,hb⟩
       have cY3:=aY5.step (hb.mono aY5.below.size) (aY5.holds.below hb)
       have kk:=cY3.holds.mono bC6
       clear hb
       refine hK.out _ _ kk (fun aW3=> ?_)
       clear hK K an4
       refine hdA 16 ?_
       (try simp only[Act.put,fe7,ff1,ff2])
       refine G9 (by kernel_rfl) ?_
       simp only[ff5,ff6]
       go_wp2_with fail
       go_ret
       exact⟨rfl,cY3.below⟩
      refine r9.cons (by simp only[ff0,fe9,fe8]<;>rfl) (fun K hK=> ?_) ?_
      ·go_simp
       obtain⟨fB7,lq,y,eB,fB⟩:=bn8 (Ext.refl bZ1.holds) (.slice al (List.length l) cl) (.slice (some ⟨gB,0,none⟩) 2 2) 33
       replace sB:=sB.mono lq
       generalize World.alloc eo0 (.cells #[.slice al (List.length l) cl,.slice (some ⟨gB,0,none⟩) 2 2] 33)=fo1 at*
       generalize(World.heap eo0).size=rB at*
       replace sA:=sA.mono lq
       replace eA:=lift lq eA
       replace fA:=lift lq fA
       have cI5:=bZ1.trans y
       have dP8:=dF2.trans lq
       have kk:=cI5.holds.mono dP8
       clear y lq
       refine hK.out _ _ kk (fun I7=> ?_)
       clear hK K F9
       (try simp only[Act.put,fe7,ff1,ff2])
       refine hdR 6 [] (fun K hK=> ?_) r9.nil
       go_simp
       go_at_call 19
       go_must (refine(cJA.out _ _ _ cI5.holds (hle.trans dP8) sA _ eA fA).mono ?_)
       rintro e fm2 ⟨_,fo2,rfl,y,sA⟩
       obtain⟨pA,qA,rfl,_,_⟩:=sA.form
       have lq:=y.le cI5.holds
       replace sB:=sB.mono lq
       replace eB:=lift lq eB
       replace fB:=lift lq fB
       have cc0:=cI5.trans y
       have dz4:=dP8.trans lq
       have kk:=cc0.holds.mono dz4
       clear y lq
       refine hK.out _ _ kk (fun aa1=> ?_)
       clear hK K I7
       (try simp only[Act.put,fe7,ff1,ff2])
       refine hdR 12 [] (fun K hK=> ?_) r9.nil
       go_simp
       go_at_call 19
       go_must (refine(cJB.out _ _ _ cc0.holds (hle.trans dz4) sB _ eB fB).mono ?_)
       rintro e fk3 ⟨_,fm3,rfl,y,sB⟩
       obtain⟨pB,qB,rfl,_,_⟩:=sB.form
       have lq:=y.le cc0.holds
       replace sA:=sA.mono lq
       have bp7:=cc0.trans y
       have bC7:=dz4.trans lq
       have kk:=bp7.holds.mono bC7
       clear y lq
       refine hK.out _ _ kk (fun bS4=> ?_)
       clear hK K aa1
       (try simp only[Act.put,fe7,ff1,ff2])
       refine hdR 13 [] (fun K hK=> ?_) r9.nil
       go_simp
       go_at_call 22
       go_must (refine(cE.out _ _ _ _ bp7.holds (hle.trans bC7) sA sB).mono ?_)
       rintro e eP6 ⟨rfl,hb⟩
       have aZ1:=bp7.step (hb.mono bp7.below.size) (bp7.holds.below hb)
       have kk:=aZ1.holds.mono bC7
       clear hb
       refine hK.out _ _ kk (fun an4=> ?_)
       clear hK K bS4
       refine hdA 14 ?_
       (try simp only[Act.put,fe7,ff1,ff2])
       refine hdR 15 [] (fun K hK=> ?_) r9.nil
       go_simp
       go_at_call 18
       go_must (refine(cW.out _ _ aZ1.holds (hle.trans bC7)).mono ?_)
       rintro e eO6 ⟨rfl,hb⟩
       have cY4:=aZ1.step (hb.mono aZ1.below.size) (aZ1.holds.below hb)
       have kk:=cY4.holds.mono bC7
       clear hb
       refine hK.out _ _ kk (fun aW3=> ?_)
       clear hK K an4
       refine hdA 16 ?_
       (try simp only[Act.put,fe7,ff1,ff2])
       refine G9 (by kernel_rfl) ?_
       simp only[ff5,ff6]
       go_wp2_with fail
       go_ret
       exact⟨rfl,cY4.below⟩
      exact r9.nil
     refine r9.cons (by simp only[ff0,fe9,fe8]<;>rfl) (fun K hK=> ?_) ?_
     ·go_simp
      obtain⟨fC8,lq,y,eB,fB⟩:=bn8 (Ext.refl dk8.holds) (.slice al (List.length l) cl) (.slice (some ⟨gB,0,none⟩) 2 2) 33
      replace sB:=sB.mono lq
      generalize World.alloc dF1 (.cells #[.slice al (List.length l) cl,.slice (some ⟨gB,0,none⟩) 2 2] 33)=eo2 at*
      generalize(World.heap dF1).size=rB at*
      replace sA:=sA.mono lq
      have dQ3:=dk8.trans y
      have eF5:=eo8.trans lq
      have kk:=dQ3.holds.mono eF5
      clear y lq
      refine hK.out _ _ kk (fun F9=> ?_)
      clear hK K F8
      (try simp only[Act.put,fe7,ff1,ff2])
      refine hdR 5 [] (fun K hK=> ?_) r9.nil
      go_simp
      obtain⟨fB8,lq,y,eA,fA⟩:=bn8 (Ext.refl dQ3.holds) (.slice al (List.length l) cl) (.slice (some ⟨gA,0,none⟩) 2 2) 33
      replace sA:=sA.mono lq
      generalize World.alloc eo2 (.cells #[.slice al (List.length l) cl,.slice (some ⟨gA,0,none⟩) 2 2] 33)=fo3 at*
      generalize(World.heap eo2).size=rA at*
      replace sB:=sB.mono lq
      replace eB:=lift lq eB
      replace fB:=lift lq fB
      have cI6:=dQ3.trans y
      have dQ4:=eF5.trans lq
      have kk:=cI6.holds.mono dQ4
      clear y lq
      refine hK.out _ _ kk (fun I7=> ?_)
      clear hK K F9
      (try simp only[Act.put,fe7,ff1,ff2])
      refine hdR 6 [] (fun K hK=> ?_) r9.nil
      go_simp
      go_at_call 19
      go_must (refine(cJA.out _ _ _ cI6.holds (hle.trans dQ4) sA _ eA fA).mono ?_)
      rintro e fm4 ⟨_,fo4,rfl,y,sA⟩
      obtain⟨pA,qA,rfl,_,_⟩:=sA.form
      have lq:=y.le cI6.holds
      replace sB:=sB.mono lq
      replace eB:=lift lq eB
      replace fB:=lift lq fB
      have cc3:=cI6.trans y
      have dz5:=dQ4.trans lq
      have kk:=cc3.holds.mono dz5
      clear y lq
      refine hK.out _ _ kk (fun aa1=> ?_)
      clear hK K I7
      (try simp only[Act.put,fe7,ff1,ff2])
      refine hdR 12 [] (fun K hK=> ?_) r9.nil
      go_simp
      go_at_call 19
      go_must (refine(cJB.out _ _ _ cc3.holds (hle.trans dz5) sB _ eB fB).mono ?_)
      rintro e fk4 ⟨_,fm5,rfl,y,sB⟩
      obtain⟨pB,qB,rfl,_,_⟩:=sB.form
      have lq:=y.le cc3.holds
      replace sA:=sA.mono lq
      have bq1:=cc3.trans y
      have bE4:=dz5.trans lq
      have kk:=bq1.holds.mono bE4
      clear y lq
      refine hK.out _ _ kk (fun bS4=> ?_)
      clear hK K aa1
      (try simp only[Act.put,fe7,ff1,ff2])
      refine hdR 13 [] (fun K hK=> ?_) r9.nil
      go_simp
      go_at_call 22
      go_must (refine(cE.out _ _ _ _ bq1.holds (hle.trans bE4) sA sB).mono ?_)
      rintro e eP8 ⟨rfl,hb⟩
      have aZ6:=bq1.step (hb.mono bq1.below.size) (bq1.holds.below hb)
      have kk:=aZ6.holds.mono bE4
      clear hb
      refine hK.out _ _ kk (fun an4=> ?_)
      clear hK K bS4
      refine hdA 14 ?_
      (try simp only[Act.put,fe7,ff1,ff2])
      refine hdR 15 [] (fun K hK=> ?_) r9.nil
      go_simp
      go_at_call 18
      go_must (refine(cW.out _ _ aZ6.holds (hle.trans bE4)).mono ?_)
      rintro e eO7 ⟨rfl,hb⟩
      have cZ1:=aZ6.step (hb.mono aZ6.below.size) (aZ6.holds.below hb)
      have kk:=cZ1.holds.mono bE4
      clear hb
      refine hK.out _ _ kk (fun aW3=> ?_)
      clear hK K an4
      refine hdA 16 ?_
      (try simp only[Act.put,fe7,ff1,ff2])
      refine G9 (by kernel_rfl) ?_
      simp only[ff5,ff6]
      go_wp2_with fail
      go_ret
      exact⟨rfl,cZ1.below⟩
     exact r9.nil
    refine r9.cons (by simp only[ff0,fe9,fe8]<;>rfl) (fun K hK=> ?_) ?_
    ·go_simp
     obtain⟨fD4,lq,y,eB,fB⟩:=bn8 (Ext.refl dP7.holds) (.slice al (List.length l) cl) (.slice (some ⟨gB,0,none⟩) 2 2) 33
     replace sB:=sB.mono lq
     generalize World.alloc ec5 (.cells #[.slice al (List.length l) cl,.slice (some ⟨gB,0,none⟩) 2 2] 33)=eF6 at*
     generalize(World.heap ec5).size=rB at*
     have ec8:=dP7.trans y
     have eN8:=lmb.trans lq
     have kk:=ec8.holds.mono eN8
     clear y lq
     refine hK.out _ _ kk (fun F8=> ?_)
     clear hK K I4
     (try simp only[Act.put,fe7,ff1,ff2])
     refine hdR 4 [] (fun K hK=> ?_) r9.nil
     go_simp
     obtain⟨fC9,lq,y,sA⟩:=bN1 (Ext.refl ec8.holds) A_z.out
     generalize World.alloc eF6 (.cells #[.string S1,.string S2] 9)=eo3 at*
     generalize(World.heap eF6).size=gA at*
     replace sB:=sB.mono lq
     replace eB:=lift lq eB
     replace fB:=lift lq fB
     have dQ6:=ec8.trans y
     have eF7:=eN8.trans lq
     have kk:=dQ6.holds.mono eF7
     clear y lq
     refine hK.out _ _ kk (fun F9=> ?_)
     clear hK K F8
     (try simp only[Act.put,fe7,ff1,ff2])
     refine hdR 5 [] (fun K hK=> ?_) r9.nil
     go_simp
     obtain⟨fB9,lq,y,eA,fA⟩:=bn8 (Ext.refl dQ6.holds) (.slice al (List.length l) cl) (.slice (some ⟨gA,0,none⟩) 2 2) 33
     replace sA:=sA.mono lq
     generalize World.alloc eo3 (.cells #[.slice al (List.length l) cl,.slice (some ⟨gA,0,none⟩) 2 2] 33)=fo5 at*
     generalize(World.heap eo3).size=rA at*
     replace sB:=sB.mono lq
     replace eB:=lift lq eB
     replace fB:=lift lq fB
     have cI7:=dQ6.trans y
     have dR2:=eF7.trans lq
     have kk:=cI7.holds.mono dR2
     clear y lq
     refine hK.out _ _ kk (fun I7=> ?_)
     clear hK K F9
     (try simp only[Act.put,fe7,ff1,ff2])
     refine hdR 6 [] (fun K hK=> ?_) r9.nil
     go_simp
     go_at_call 19
     go_must (refine(cJA.out _ _ _ cI7.holds (hle.trans dR2) sA _ eA fA).mono ?_)
     rintro e fm6 ⟨_,fo6,rfl,y,sA⟩
     obtain⟨pA,qA,rfl,_,_⟩:=sA.form
     have lq:=y.le cI7.holds
     replace sB:=sB.mono lq
     replace eB:=lift lq eB
     replace fB:=lift lq fB
     have cc4:=cI7.trans y
     have dz7:=dR2.trans lq
     have kk:=cc4.holds.mono dz7
     clear y lq
     refine hK.out _ _ kk (fun aa1=> ?_)
     clear hK K I7
     (try simp only[Act.put,fe7,ff1,ff2])
     refine hdR 12 [] (fun K hK=> ?_) r9.nil
     go_simp
     go_at_call 19
     go_must (refine(cJB.out _ _ _ cc4.holds (hle.trans dz7) sB _ eB fB).mono ?_)
     rintro e fk5 ⟨_,fm7,rfl,y,sB⟩
     obtain⟨pB,qB,rfl,_,_⟩:=sB.form
     have lq:=y.le cc4.holds
     replace sA:=sA.mono lq
     have bq2:=cc4.trans y
     have bE6:=dz7.trans lq
     have kk:=bq2.holds.mono bE6
     clear y lq
     refine hK.out _ _ kk (fun bS4=> ?_)
     clear hK K aa1
     (try simp only[Act.put,fe7,ff1,ff2])
     refine hdR 13 [] (fun K hK=> ?_) r9.nil
     go_simp
     go_at_call 22
     go_must (refine(cE.out _ _ _ _ bq2.holds (hle.trans bE6) sA sB).mono ?_)
     rintro e eP9 ⟨rfl,hb⟩
     have ba1:=bq2.step (hb.mono bq2.below.size) (bq2.holds.below hb)
     have kk:=ba1.holds.mono bE6
     clear hb
     refine hK.out _ _ kk (fun an4=> ?_)
     clear hK K bS4
     refine hdA 14 ?_
     (try simp only[Act.put,fe7,ff1,ff2])
     refine hdR 15 [] (fun K hK=> ?_) r9.nil
     go_simp
     go_at_call 18
     go_must (refine(cW.out _ _ ba1.holds (hle.trans bE6)).mono ?_)
     rintro e eO8 ⟨rfl,hb⟩
     have cZ7:=ba1.step (hb.mono ba1.below.size) (ba1.holds.below hb)
     have kk:=cZ7.holds.mono bE6
     clear hb
     refine hK.out _ _ kk (fun aW3=> ?_)
     clear hK K an4
     refine hdA 16 ?_
     (try simp only[Act.put,fe7,ff1,ff2])
     refine G9 (by kernel_rfl) ?_
     simp only[ff5,ff6]
     go_wp2_with fail
     go_ret
     exact⟨rfl,cZ7.below⟩
    exact r9.nil
   exact r9.nil
end
end Go.Proofs.YtbliehinagkldaaGreatDoor
