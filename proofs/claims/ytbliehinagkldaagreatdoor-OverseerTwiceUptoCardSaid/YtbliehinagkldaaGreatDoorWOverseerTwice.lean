/- Lemmas and the walk of the law OverseerTwice (names and blanks made short by a program). -/
import Derived.Test.YtbliehinagkldaaGreatDoorG19
set_option linter.all false
set_option maxRecDepth 100000
set_option maxHeartbeats 16000000
open Go.Lib renaming hid → fe6
open List renaming setIfInBounds_toArray → fe7, getElem?_cons_zero → fe8, getElem?_cons_succ → fe9, getElem?_toArray → ff0, set_cons_zero → ff1, set_cons_succ → ff2, getD_eq_getElem?_getD → ff3, length_append → ff4, drop_succ_cons → ff5, drop_zero → ff6, length_cons → ff8, nil_append → ff9, getElem?_eq_getElem → fg0, length_nil → fg1, cons_append → fg2, push_toArray → fg3, length_map → fg5
open Array renaming replicate_zero → fg8, replicate_succ → fg9
open Nat renaming le_refl → fh0, zero_le → fh3, reduceAdd → fh6, reduceSub → fh7
open Int renaming toNat_natCast → fh8
open Bool renaming and_eq_true → fh9
namespace Go.Proofs.YtbliehinagkldaaGreatDoor
open Go.Proofs.YtbliehinagkldaaGreatDoor renaming u6 → uI6, u7 → uI7
section
open Go.RowKit
theorem hdA {P:Program} {md:Region.Mode} {ops:Array Oper} {Q:Exit→Act→World→Prop} {S:World→Prop} {n g:Nat} {tl:List Oper} (i:Nat) {oi:Oper} {v:Value} {f:Nat} {listed:Array Bool} {a:Act} {w:World} (h:hdI P md ops Q S n g tl f (listed.setIfInBounds i true) (a.put oi.dst v) w)
 (hi:ops[i]? =some oi:=by simp only[ff0,fe9,fe8]<;>rfl) (hb:(Region.noSelect ops&&Region.free md ops listed i&&((Region.ready md ops listed).contains i&&decide (i<n)))=true:=by kernel_rfl)
 (hQ:∀c a w,Q (.panic c) (a.put oi.dst v) w→Q (.panic c) a w:=by exact fun _ _ _ h=>h) (hg:Region.wanted oi (yielded ops a.tmps)=true:=by rfl) (hy:∀w,S w→(execOp a.eval oi).run P w= .ok (.value v) w:=by intro w hSw;(try dsimp only at hSw);go_simp;(try(with_reducible rfl))) (hS:S w:=by assumption):hdI P md ops Q S n g tl (f+1) listed a w:=D9 i hi hb hQ hg hy hS h
theorem hdR {P:Program} {md:Region.Mode} {ops:Array Oper} {Q:Exit→Act→World→Prop} {S:World→Prop} {n g:Nat} {tl:List Oper} (i:Nat) {o:Oper} (rs:List Nat) {f:Nat} {listed:Array Bool} {a:Act} {w:World}
 (h:∀K':Act→World→Prop,Shut (∀a w,S w→(S w→hdI P md ops Q S n g tl f (listed.setIfInBounds i true) a w)→K' a w)→if Region.wanted o (yielded ops a.tmps)=true then Oper.wp P o a w K' Q else K' (a.put o.dst undef) w)
 (hs:r9 P md ops Q S n g tl f listed a w rs) (hr:Region.ready md ops listed=i::rs:=by kernel_rfl) (hne:(!(i::rs).isEmpty&&(i::rs).all (fun i=>decide (i<n)))=true:=by kernel_rfl) (ho:ops[i]? =some o:=by simp only[ff0,fe9,fe8]<;>rfl):hdI P md ops Q S n g tl (f+1) listed a w:=uI6 hr hne (r9.cons ho h hs)
end
section
open Go.RowKit Go.ChangeShapes Go.WideShapes Go.Deep
theorem aJ9 (w:World):j4 (ad6 w) w:=⟨fun _ _ e=>e⟩
end
section
theorem ay0 (a b:ByteArray):C9 (J8 (C8 a++32::C8 b))=C9 a++C9 b:=by
 unfold C9
 rw[show C8 (J8 (C8 a++32::C8 b))=C8 a++32::C8 b from rfl,bi7,List.map_append]
theorem ap5 {a:ByteArray} (h:∀b∈C8 a,b≠32):C9 a=[a]:=by
 unfold C9
 rw[aF1 h]
 rfl
theorem ca0 (a:ByteArray):C9 a≠[]:=fun e=>aB3 (C8 a) (by unfold C9 at e;exact List.map_eq_nil_iff.1 e)
theorem da9 (n:Int):∀b∈Lib.itoa n,b≠32:=fun b hb e=>by
 have key:∀u,b∈Lib.decDigits u→False:=fun u hu=>by
  have:=ah8.1 (List.all_eq_true.1 (aU5 u) b hu)
  rw[e]at this
  have h32:(32:UInt8).toNat=32:=rfl
  omega
 unfold Lib.itoa at hb
 split at hb
 ·rcases List.mem_cons.1 hb with h|h
  ·rw[e]at h;cases h
  ·exact key _ h
 ·exact key _ hb
end
section
theorem co8 (t:D5) (l m:List F7):Z5 t (l++m)=Z5 (Z5 t l) m:=by
 induction l generalizing t with
 |nil=>rfl
 |cons x l ih=>exact ih _
theorem cJ8 (t:D5) (l m:List F7):aZ9 t (l++m)=aZ9 t l++aZ9 (Z5 t l) m:=by
 induction l generalizing t with
 |nil=>rfl
 |cons x l ih=>show _++aZ9 _ (l++m)=_;rw[ih,←List.append_assoc];rfl
theorem cJ9 (t:D5) (l:List F7):Z5 t (l++[E9])=Z5 t l:=by rw[co8];rfl
theorem dP5 (t:D5) (l:List F7):aZ9 t (l++[E9])=aZ9 t l:=by rw[cJ8];exact List.append_nil _
theorem do1 (s:ByteArray):C9 s≠[]:=ca0 s
end
section
theorem db2 (u:Nat):ar2 (Lib.decDigits u)=Lib.decDigits u:=by
 have h:=cm2 u
 unfold ar2
 split
 ·rename_i r hr;rw[hr]at h;exact absurd rfl h
 ·rfl
theorem db3 {n:Int} (h1: -1000000<n) (h2:n<1000000):O5 (G6 n)=some n:=by
 refine cm3 (w:=G6 n) (v:=n) rfl ?_
 show(ar2 (Lib.itoa n)).length≤6
 unfold Lib.itoa
 split
 ·exact aI6 _ 5 (by omega)
 ·rw[db2];exact aI6 _ 5 (by omega)
theorem cI4 (n:Int) (e:ByteArray):C9 (ch3 n e)=ad5::G6 n::wIs::C9 e:=by
 have h:ch3 n e=J8 (C8 ad5++32::C8 (J8 (C8 (G6 n)++32::C8 (J8 (C8 wIs++32::C8 e))))):=by
  unfold ch3
  show J8 _=J8 ([108,105,110,101]++32::(C8 (G6 n)++32::([105,115]++32::C8 e)))
  simp
 rw[h,ay0,ay0,ay0,ap5 (a:=ad5) (by decide),ap5 (a:=wIs) (by decide),ap5 (a:=G6 n) (da9 n)]
 rfl
theorem cM8 {w:ByteArray} {l:List ByteArray} (h:O5 w=none):T9 (w::l)=none:=by unfold T9;rw[h]
theorem cz5 {w:ByteArray} {l:List ByteArray} (h:T9 l=none):T9 (w::l)=none:=by unfold T9;rw[h];split<;>simp_all
theorem bO9 {n:Int} {e:ByteArray} (h1: -1000000<n) (h2:n<1000000):A8 (ch3 n e)=if C9 e=[au8]then{E9 with kind:=6,of:=n}else if(A7 (C9 e)).kind=1 then{A7 (C9 e)with kind:=5,of:=n}else E9:=by
 unfold A8
 rw[cI4]
 have h0:A7 (ad5::G6 n::wIs::C9 e)=E9:=aN9 (cz5 (cM8 (by decide)))
 unfold ac8
 rw[if_neg (by rw[h0];decide)]
 simp only[db3 h1 h2]
 rw[if_neg (by decide),if_neg (by decide),if_pos trivial,if_neg]
 rintro(h|h)
 ·exact do1 e h
 ·exact h rfl
theorem cK0:C9 au8=[au8]:=ap5 (by decide)
theorem bb5 {n:Int} (h1: -1000000<n) (h2:n<1000000):A8 (ch3 n au8)={E9 with kind:=6,of:=n}:=by rw[bO9 h1 h2,if_pos cK0]
theorem aM1 {n:Int} {e:ByteArray} (h1: -1000000<n) (h2:n<1000000) (he:(A8 e).kind=1):A8 (ch3 n e)={A8 e with kind:=5,of:=n}:=by
 have e1:A8 e=A7 (C9 e):=bH4 (.inl he)
 rw[bO9 h1 h2,if_neg,←e1,if_pos he]
 intro hs
 rw[e1,hs]at he
 revert he
 decide
theorem bM4 {l:List F7} {x:F7} (hk:x.kind=5∨x.kind=6) (he:at5 l x.of=true):aa4 (l++[x])=(aa4 l).set x.of.toNat (av1 x)++[E9]:=by
 rw[aD5]
 unfold ak4
 rw[if_neg (by omega),if_pos ⟨hk,he⟩]
 rfl
theorem av3 {l:List F7} {n:Int}:at5 l n=true↔0≤n∧n<(l.length:Int)∧(l.getD n.toNat E9).kind=1:=by
 unfold at5;simp[and_assoc]
theorem cK1 {l m:List F7} {n:Int} (h:n<(l.length:Int)):at5 (l++m) n=at5 l n:=by
 by_cases h0:0≤n
 ·have hl:n.toNat<l.length:=by omega
  have e:(l++m).getD n.toNat E9=l.getD n.toNat E9:=by
   rw[ff3,ff3,List.getElem?_append_left hl]
  have key:=av3 (l:=l++m) (n:=n)
  have dR6:=av3 (l:=l) (n:=n)
  rw[e]at key
  rw[ff4]at key
  cases h1:at5 l n with
  |true=>obtain⟨a,b,c⟩:=dR6.1 h1;exact key.2 ⟨a,by omega,c⟩
  |false=>
   cases h2:at5 (l++m) n with
   |false=>rfl
   |true=>
    obtain⟨a,b,c⟩:=key.1 h2
    rw[dR6.2 ⟨a,h,c⟩]at h1;cases h1
 ·have a1:¬at5 (l++m) n=true:=fun h=>h0 (av3.1 h).1
  have a2:¬at5 l n=true:=fun h=>h0 (av3.1 h).1
  simp only[Bool.not_eq_true]at a1 a2
  rw[a1,a2]
theorem cI5 {l m:List F7} {n:Int} (h:at5 l n=true):at5 (l++m) n=true:=by rw[cK1 (av3.1 h).2.1];exact h
def ba4 (t:D5) (a b:List ByteArray):Bool:=decide (V5 t a=V5 t b)&&decide (O0 t a=O0 t b)
theorem cd8 {t:D5} {a b:List ByteArray} (v:F6 t=true) (ha:a.length≤24) (hb:b.length≤24)
 (h:Z5 t (aa4 (a.map A8))=Z5 t (aa4 (b.map A8))∧aZ9 t (aa4 (a.map A8))=aZ9 t (aa4 (b.map A8))):ba4 t a b=true:=by
 unfold ba4
 rw[aK0 v ha,aK0 v hb,aS9 v ha,aS9 v hb,decide_eq_true h.1,decide_eq_true h.2];rfl
theorem dR8 {t:D5} {l m:List F7} (h:l=m++[E9]):Z5 t l=Z5 t m∧aZ9 t l=aZ9 t m:=by rw[h];exact⟨cJ9 _ _,dP5 _ _⟩
theorem dl9 {l:List ByteArray} {n:Nat} (h:n<l.length):(l.map A8).getD n E9=A8 (l.getD n ⟨#[]⟩):=by
 rw[ff3,ff3,List.getElem?_map,fg0 h];rfl
theorem cK2 {t:D5} {l:List ByteArray} {n:Int} {a b:ByteArray} (v:F6 t=true) (hl:l.length+2≤24) (hn:at5 (l.map A8) n=true) (ha:(A8 a).kind=1) (hb:(A8 b).kind=1):
 ba4 t (l++[ch3 n a,ch3 n b]) (l++[ch3 n b])=true∧ba4 t (l++[ch3 n a,ch3 n au8]) (l++[ch3 n au8])=true:=by
 obtain⟨n0,n1,nk⟩:=av3.1 hn
 rw[fg5]at n1
 have h1: -1000000<n:=by omega
 have h2:n<1000000:=by omega
 have key:∀s:ByteArray,(A8 (ch3 n s)).of=n→((A8 (ch3 n s)).kind=5∨(A8 (ch3 n s)).kind=6)→
  Z5 t (aa4 ((l++[ch3 n a,ch3 n s]).map A8))=Z5 t (aa4 ((l++[ch3 n s]).map A8))∧aZ9 t (aa4 ((l++[ch3 n a,ch3 n s]).map A8))=aZ9 t (aa4 ((l++[ch3 n s]).map A8)):=fun s ho hk=>by
  have e1:(l++[ch3 n a,ch3 n s]).map A8=(l.map A8++[A8 (ch3 n a)])++[A8 (ch3 n s)]:=by simp
  have hA:=aM1 h1 h2 ha
  have f1:=bM4 (l:=l.map A8) (x:=A8 (ch3 n a)) (by rw[hA];exact .inl rfl) (by rw[hA];exact hn)
  have f2:=bM4 (l:=l.map A8++[A8 (ch3 n a)]) (x:=A8 (ch3 n s)) hk (by rw[ho];exact cI5 hn)
  have f3:=bM4 (l:=l.map A8) (x:=A8 (ch3 n s)) hk (by rw[ho];exact hn)
  have hlen:n.toNat<(aa4 (l.map A8)).length:=by rw[bt8,fg5];omega
  rw[e1,f2,f1,ho,show(A8 (ch3 n a)).of=n by rw[hA],List.set_append_left _ _ (by rw[List.length_set];exact hlen),List.set_set,List.map_append,List.map_singleton,f3,ho]
  exact dR8 rfl
 exact⟨cd8 v (by simp;omega) (by simp;omega) (key b (by rw[aM1 h1 h2 hb]) (by rw[aM1 h1 h2 hb];exact .inl rfl)),
  cd8 v (by simp;omega) (by simp;omega) (key au8 (by rw[bb5 h1 h2]) (by rw[bb5 h1 h2];exact .inr rfl))⟩
end
section
open Go.RowKit Go.ChangeShapes Go.WideShapes Go.Deep
section
variable {H:Type} {enc:TypeId × Value→H} {W:World} {sp:Nat→Bool} {hd:Bool}
theorem dx9 {H:Type} (d:DataW H):1≤Rows.uptoBulk d:=by
 cases d with
 |lit l=>cases l<;>simp[Rows.uptoBulk]
 |nil=>simp[Rows.uptoBulk]
 |ptr d=>simp[Rows.uptoBulk]
 |slice elems spare=>simp[Rows.uptoBulk]
 |agg parts=>simp[Rows.uptoBulk]
 |iface t d=>simp[Rows.uptoBulk]
 |map entries=>simp[Rows.uptoBulk]
 |held h=>simp[Rows.uptoBulk]
theorem bR2 {H:Type} {d:DataW H} {l:List (DataW H)} (h:d∈l):Rows.uptoBulk d≤Rows.uptoBulkAll l:=by
 induction l with
 |nil=>cases h
 |cons x r ih=>
  simp only[Rows.uptoBulkAll]
  cases List.mem_cons.1 h with
  |inl e=>subst e;omega
  |inr e=>have:=ih e;omega
theorem dy1 {H:Type} (l:List (DataW H)):l.length≤Rows.uptoBulkAll l:=by
 induction l with
 |nil=>simp[Rows.uptoBulkAll]
 |cons x r ih=>have:=dx9 x;simp only[Rows.uptoBulkAll,ff8];omega
theorem cI6 {H:Type} (elems spare:List (DataW H)):Rows.uptoBulkAll elems+1≤Rows.uptoBulk (.slice elems spare):=by
 simp only[Rows.uptoBulk]
 omega
theorem cI7 {n:Nat} {v:Value} {y:DataW H × List MemPlace} {xs:List ByteArray} (h:DataW.trod enc Tryz.prog W 0 sp hd n 33 [v]=some y) (hs:Sl (ad6 W) v xs):
 xs.length≤Rows.uptoBulk y.1∧∀s∈xs,s.size≤Rows.uptoBulk y.1:=by
 have hc:Tryz.prog.cellsOf 9=1:=by kernel_rfl
 obtain⟨a',c',ev,_,_⟩:=hs.form
 rcases open_slice Tryz.underlying33 h with⟨hcs,_⟩|⟨a,len,cap,m,n',D,Pl,hcs,_,hl,hm,hmm,rfl,hx⟩
 ·simp at hcs
  subst hcs
  have h0:xs.length=0:=by simp at ev;omega
  have:xs=[]:=List.length_eq_zero_iff.1 h0
  subst this
  exact⟨fh3 _,fun s hs=>by cases hs⟩
 ·simp at hcs
  subst hcs
  have h0:len=xs.length:=by simp at ev;omega
  have hlm:len≤m:=by rw[hmm];split<;>omega
  have hb:=cI6 ((List.range len).map D) ((List.range (m-len)).map fun j=>D (len+j))
  have hn:=dy1 ((List.range len).map D)
  rw[fg5,List.length_range]at hn
  refine⟨by show _≤Rows.uptoBulk (DataW.slice _ _);omega,fun s hsm=> ?_⟩
  obtain⟨k,hk⟩:=List.mem_iff_getElem?.1 hsm
  have hkl:k<xs.length:=(List.getElem?_eq_some_iff.1 hk).1
  obtain⟨b,o,c,e,_,p⟩:=hs.str (show At xs k s from hk)
  have hp:=p W (aJ9 W)
  obtain⟨cs,hcs,ht⟩:=hx k (by omega)
  obtain⟨_,hl1,hg1⟩:=World.cells?_some hcs
  rw[hc]at hl1 hg1
  have hg:=hg1 0 (by omega)
  simp at e
  obtain⟨ea,_,_⟩:=e
  subst ea
  rw[Addr.add_lit,Addr.add_lit]at hg
  obtain⟨s',rfl,ey,_⟩:=DataW.trod_string Tryz.underlying9 ht
  have dS1:W.cell? ⟨b,o+k,none⟩=some (.string s'):=by simpa [hc]using hg
  have hss:s'=s:=by rw[hp]at dS1;simpa using dS1.symm
  subst hss
  have hD:D k= .lit (.string s'.data.toList):=(Prod.mk.inj ey).1
  have h1:Rows.uptoBulk (D k)≤Rows.uptoBulkAll ((List.range len).map D):=bR2 (List.mem_map.2 ⟨k,List.mem_range.2 (by omega),rfl⟩)
  rw[hD]at h1
  have h2:s'.data.toList.length≤Rows.uptoBulk (DataW.lit (H:=H) (.string s'.data.toList)):=by simp[Rows.uptoBulk]
  have h3:s'.size=s'.data.toList.length:=rfl
  show _≤Rows.uptoBulk (DataW.slice _ _)
  omega
end
end
section
open Go.RowKit Go.ChangeShapes Go.WideShapes Go.Deep Go.Joins
section
variable {H:Type} {enc:TypeId × Value→H} {W:World} {sp:Nat→Bool} {hd:Bool}
theorem cO4:Tryz.prog.cellsOf 3=1:=by kernel_rfl
theorem cO5:Tryz.prog.cellsOf 9=1:=by kernel_rfl
theorem cI8:Tryz.prog.cellsOf 35=2:=by kernel_rfl
theorem dI6 {α:Type} {cs:Array α} (h:cs.size=2):∃a b,cs= #[a,b]:=by
 obtain⟨l⟩:=cs
 match l,h with
 |[a,b],_=>exact⟨a,b,rfl⟩
theorem dP6 {α:Type} {cs:Array α} (h:cs.size=4):∃a b c d,cs= #[a,b,c,d]:=by
 obtain⟨l⟩:=cs
 match l,h with
 |[a,b,c,d],_=>exact⟨a,b,c,d,rfl⟩
theorem co0 {r:Reach} {b0:Nat} {v:Value} {d:DataW H} {p:List MemPlace} (hv:Value.okWide Tryz.prog W r b0 78 v) (h:DataW.Trod enc Tryz.prog W 0 sp hd 78 v d p) (hw:∀k∈d.weights Tryz.prog 78,k≤reachBytes):
 ∃(q:ByteArray) (n:Int),v= .agg #[.string q,.int .i64 n]∧q.size≤140737488355328∧K8 n:=by
 obtain⟨cs,rfl,hsz⟩:=okWide_struct Tryz.underlying78 hv
 obtain⟨c0,c1,rfl⟩:=dI6 (hsz.trans (by kernel_rfl))
 obtain⟨fuel,hf⟩:=h
 obtain⟨y0,y1,n,ex,_,h0,h1⟩:=trod_struct2 Tryz.underlying78 hf
 simp only[Value.cells,cO5,cO4,ff6,ff5,List.take_succ_cons,List.take_zero]at h0 h1
 obtain⟨rfl,-⟩:=Prod.mk.inj ex
 simp only[DataW.weights,Tryz.underlying78,List.map_cons,List.map_nil,DataW.weightsEach,List.mem_append,List.append_nil]at hw
 obtain⟨q,hq,hqz⟩:=cG0 _ _ _ h0 (fun k hk=>hw k (by simp[hk]))
 obtain⟨k1,e1,_,w1⟩:=DataW.trod_int Tryz.underlying3 h1
 simp at hq e1
 subst hq;subst e1
 exact⟨q,k1,rfl,hqz,ah7 w1⟩
theorem cK9 (n:Nat) (cs:List Value) (y:DataW H × List MemPlace) (h:DataW.trod enc Tryz.prog W 0 sp hd n 35 cs=some y) (hw:∀k∈y.1.weights Tryz.prog 35,k≤reachBytes):
 ∃(q:ByteArray) (k:Int),cs=[.int .i64 k,.string q]∧q.size≤140737488355328∧K8 k:=by
 obtain⟨y0,y1,m,ex,hl,h0,h1⟩:=trod_struct2 Tryz.underlying35 h
 match cs,hl.trans (by kernel_rfl:_=2)with
 |[c0,c1],_=>
  simp only[cO4,cO5,ff6,ff5,List.take_succ_cons,List.take_zero]at h0 h1
  subst ex
  simp only[DataW.weights,Tryz.underlying35,List.map_cons,List.map_nil,DataW.weightsEach,List.mem_append,List.append_nil]at hw
  obtain⟨k0,e0,_,w0⟩:=DataW.trod_int Tryz.underlying3 h0
  obtain⟨q,hq,hqz⟩:=cG0 _ _ _ h1 (fun k hk=>hw k (by simp[hk]))
  simp at hq e0
  subst hq;subst e0
  exact⟨q,k0,rfl,hqz,ah7 w0⟩
theorem cI9 {r:Reach} {b0:Nat} {v:Value} {d:DataW H} {p:List MemPlace} (hv:Value.okWide Tryz.prog W r b0 52 v) (h:DataW.Trod enc Tryz.prog W 0 sp hd 52 v d p) (hw:∀k∈d.weights Tryz.prog 52,k≤reachBytes):
 ∃(q q2:ByteArray) (n n2:Int),v= .agg #[.int .i64 n,.string q,.int .i64 n2,.string q2]∧q.size≤140737488355328∧q2.size≤140737488355328∧K8 n∧K8 n2:=by
 obtain⟨cs,rfl,hsz⟩:=okWide_struct Tryz.underlying52 hv
 obtain⟨c0,c1,c2,c3,rfl⟩:=dP6 (hsz.trans (by kernel_rfl))
 obtain⟨fuel,hf⟩:=h
 obtain⟨y0,y1,n,ex,_,h0,h1⟩:=trod_struct2 Tryz.underlying52 hf
 simp only[Value.cells,cI8,ff6,ff5,List.take_succ_cons,List.take_zero]at h0 h1
 obtain⟨rfl,-⟩:=Prod.mk.inj ex
 simp only[DataW.weights,Tryz.underlying52,List.map_cons,List.map_nil,DataW.weightsEach,List.mem_append,List.append_nil]at hw
 obtain⟨q,k,e,z1,z2⟩:=cK9 _ _ _ h0 (fun k hk=>hw k (by simp[hk]))
 obtain⟨q2,k2,e2,z3,z4⟩:=cK9 _ _ _ h1 (fun k hk=>hw k (by simp[hk]))
 simp at e e2
 obtain⟨rfl,rfl⟩:=e
 obtain⟨rfl,rfl⟩:=e2
 exact⟨q,q2,k,k2,rfl,z1,z3,z2,z4⟩
end
end
section
open Go.RowKit
attribute [local go_sem] j4.drew j4.alloc j4.drewN WB.holds Oper.semAt_some Q9 O1 J7
theorem cp5 (vm vb vt um uo ua lv mv:Value) (t:D5) (l m:List ByteArray) (v:F6 t=true) (h1:l.length≤24) (h2:m.length≤24) (z1:∀s∈l,s.size≤900) (z2:∀s∈m,s.size≤900) (hs:ba4 t l m=true)
 (H:j5) (dr:Doors H) (w:World) (hw:j4 H w) (ht:Twn H vm vb vt um uo ua t) (hl:Sl H lv l) (hm:Sl H mv m):
 Calls Tryz.prog 22 #[ah0 vm vb vt um uo ua t,lv,mv] w (I1 w (.bool true)):=by
 unfold ba4 at hs
 rw[fh9]at hs
 have e1:=of_decide_eq_true hs.1
 have e2:=of_decide_eq_true hs.2
 have cU:=fun(H':j5) (W:World) (hW:j4 H' W) (hle:D8 H H')=>aD1 vm vb vt um uo ua lv t l v h1 z1 H' (dr.mono hle) W hW (ht.mono hle) (hl.mono hle)
 have cV:=fun(H':j5) (W:World) (hW:j4 H' W) (hle:D8 H H')=>aD1 vm vb vt um uo ua mv t m v h2 z2 H' (dr.mono hle) W hW (ht.mono hle) (hm.mono hle)
 have cS:∀(va vb:Value) (xs:List ByteArray) (H':j5) (W:World),j4 H' W→Sl H' va xs→Sl H' vb xs→Calls Tryz.prog 25 #[va,vb] W (I1 W (.bool true)):=fun va vb xs H' W hW h1 h2=>by simpa using bK5 va vb xs xs H' W hW h1 h2
 rw[←e1,←e2]at cV
 clear hs e1 e2 z1 z2 h1 h2 v
 generalize V5 t l=T at*
 generalize O0 t l=K at*
 generalize Y1 t l=A at*
 generalize Y1 t m=A2 at*
 obtain⟨al,cl,rfl,_,_⟩:=hl.form
 obtain⟨am,cm,rfl,_,_⟩:=hm.form
 replace cU:=fe6 cU
 replace cV:=fe6 cV
 replace cS:=fe6 cS
 clear hl hm ht dr
 go_enter Tryz.func22,Tryz.ntmps22
 go_upto_region 2 with(first|(refine uI7 rfl _ rfl (Ext.refl hw) ?_;intro B w1 H1 hle hx hB hBw;obtain⟨hc0,hc1,hc2,hc3,hc4,O8,hc6,O9⟩:=I5 hB;clear hB hw;have hw1:=hx.holds)|(go_at_call 23;go_must (refine(cU.out _ _ hw1 hle).mono ?_);rintro e w3 ⟨_,H3,rfl,y3,va,vt',vk,rfl,sAa,⟨xm,xb,xt,xp,xq,xr,rfl,tw3⟩,sKa⟩;obtain⟨pAa,qAa,rfl,_,_⟩:=sAa.form;obtain⟨pKa,qKa,rfl,_,_⟩:=sKa.form;obtain⟨p0,pq0,rfl,_,_⟩:=tw3.h.m.form;obtain⟨p1,pq1,rfl,_,_⟩:=tw3.h.b.form;obtain⟨p2,pq2,rfl,_,_⟩:=tw3.h.t.form;obtain⟨p3,pq3,rfl,_,_⟩:=tw3.s.m.form;obtain⟨p4,pq4,rfl,_,_⟩:=tw3.s.o.form;obtain⟨p5,pq5,rfl,_,_⟩:=tw3.s.a.form))
 have x3:=hx.trans y3
 have hn_:H3 (World.heap w3).size=none:=(x3).holds.D6 (fh0 _)
 have x4:=((x3).alloc (.cells #[.slice p0 T.h.ms.length pq0,.slice p1 T.h.bs.length pq1,.slice p2 T.h.ts.length pq2,.int .i64 T.h.ch,.slice p3 T.s.mo.length pq3,.slice p4 T.s.wo.length pq4,.slice p5 T.s.wa.length pq5,.int .i64 T.s.fr] 32)).freeze (x3).below.size (heap_alloc_new w3 _)
 have l4:=j5.L9 hn_ (.cells #[.slice p0 T.h.ms.length pq0,.slice p1 T.h.bs.length pq1,.slice p2 T.h.ts.length pq2,.int .i64 T.h.ch,.slice p3 T.s.mo.length pq3,.slice p4 T.s.wo.length pq4,.slice p5 T.s.wa.length pq5,.int .i64 T.s.fr] 32 (0,0))
 have eb6:=j5.G7 H3 (World.heap w3).size (.cells #[.slice p0 T.h.ms.length pq0,.slice p1 T.h.bs.length pq1,.slice p2 T.h.ts.length pq2,.int .i64 T.h.ch,.slice p3 T.s.mo.length pq3,.slice p4 T.s.wo.length pq4,.slice p5 T.s.wa.length pq5,.int .i64 T.s.fr] 32 (0,0))
 clear hn_
 generalize j5.put H3 (World.heap w3).size (.cells #[.slice p0 T.h.ms.length pq0,.slice p1 T.h.bs.length pq1,.slice p2 T.h.ts.length pq2,.int .i64 T.h.ch,.slice p3 T.s.mo.length pq3,.slice p4 T.s.wo.length pq4,.slice p5 T.s.wa.length pq5,.int .i64 T.s.fr] 32 (0,0))=H4 at*
 generalize World.alloc w3 (.cells #[.slice p0 T.h.ms.length pq0,.slice p1 T.h.bs.length pq1,.slice p2 T.h.ts.length pq2,.int .i64 T.h.ch,.slice p3 T.s.mo.length pq3,.slice p4 T.s.wo.length pq4,.slice p5 T.s.wa.length pq5,.int .i64 T.s.fr] 32)=w4 at*
 generalize(World.heap w3).size=C at*
 have l14:D8 H1 H4:=(y3.le hw1).trans l4
 have bd9:=hle.trans l14
 have twA:=tw3.mono l4
 replace sKa:=sKa.mono l4
 obtain⟨d0,d1,d2,d3,d4,d5,d6,d7⟩:=I5 (t:=T) eb6
 replace hc0:=lift l14 hc0
 replace hc1:=lift l14 hc1
 replace hc2:=lift l14 hc2
 replace hc3:=lift l14 hc3
 replace hc4:=lift l14 hc4
 replace O8:=lift l14 O8
 replace hc6:=lift l14 hc6
 replace O9:=lift l14 O9
 have hw4:=x4.holds
 clear x3 y3 hw1 hx tw3 sAa eb6 l14 l4 cU
 go_upto_region 3 with(go_at_call 23;go_must (refine(cV.out _ _ hw4 bd9).mono ?_);rintro e w6 ⟨_,H6,rfl,y6,va,vt',vk,rfl,sAb,⟨xm,xb,xt,xp,xq,xr,rfl,tw6⟩,sKb⟩;obtain⟨pAb,qAb,rfl,_,_⟩:=sAb.form;obtain⟨pKb,qKb,rfl,_,_⟩:=sKb.form;obtain⟨r0,rq0,rfl,_,_⟩:=tw6.h.m.form;obtain⟨r1,rq1,rfl,_,_⟩:=tw6.h.b.form;obtain⟨r2,rq2,rfl,_,_⟩:=tw6.h.t.form;obtain⟨r3,rq3,rfl,_,_⟩:=tw6.s.m.form;obtain⟨r4,rq4,rfl,_,_⟩:=tw6.s.o.form;obtain⟨r5,rq5,rfl,_,_⟩:=tw6.s.a.form)
 have x6:=x4.trans y6
 have hn_:H6 (World.heap w6).size=none:=(x6).holds.D6 (fh0 _)
 have x7:=((x6).alloc (.cells #[.slice r0 T.h.ms.length rq0,.slice r1 T.h.bs.length rq1,.slice r2 T.h.ts.length rq2,.int .i64 T.h.ch,.slice r3 T.s.mo.length rq3,.slice r4 T.s.wo.length rq4,.slice r5 T.s.wa.length rq5,.int .i64 T.s.fr] 32)).freeze (x6).below.size (heap_alloc_new w6 _)
 have l7:=j5.L9 hn_ (.cells #[.slice r0 T.h.ms.length rq0,.slice r1 T.h.bs.length rq1,.slice r2 T.h.ts.length rq2,.int .i64 T.h.ch,.slice r3 T.s.mo.length rq3,.slice r4 T.s.wo.length rq4,.slice r5 T.s.wa.length rq5,.int .i64 T.s.fr] 32 (0,0))
 have eb7:=j5.G7 H6 (World.heap w6).size (.cells #[.slice r0 T.h.ms.length rq0,.slice r1 T.h.bs.length rq1,.slice r2 T.h.ts.length rq2,.int .i64 T.h.ch,.slice r3 T.s.mo.length rq3,.slice r4 T.s.wo.length rq4,.slice r5 T.s.wa.length rq5,.int .i64 T.s.fr] 32 (0,0))
 clear hn_
 generalize j5.put H6 (World.heap w6).size (.cells #[.slice r0 T.h.ms.length rq0,.slice r1 T.h.bs.length rq1,.slice r2 T.h.ts.length rq2,.int .i64 T.h.ch,.slice r3 T.s.mo.length rq3,.slice r4 T.s.wo.length rq4,.slice r5 T.s.wa.length rq5,.int .i64 T.s.fr] 32 (0,0))=H7 at*
 generalize World.alloc w6 (.cells #[.slice r0 T.h.ms.length rq0,.slice r1 T.h.bs.length rq1,.slice r2 T.h.ts.length rq2,.int .i64 T.h.ch,.slice r3 T.s.mo.length rq3,.slice r4 T.s.wo.length rq4,.slice r5 T.s.wa.length rq5,.int .i64 T.s.fr] 32)=w7 at*
 generalize(World.heap w6).size=D at*
 have l47:D8 H4 H7:=(y6.le hw4).trans l7
 have twB:=tw6.mono l7
 replace twA:=twA.mono l47
 replace sKa:=sKa.mono l47
 replace sKb:=sKb.mono l7
 obtain⟨g0,g1,g2,g3,g4,g5,g6,g7⟩:=I5 (t:=T) eb7
 replace d0:=lift l47 d0
 replace d1:=lift l47 d1
 replace d2:=lift l47 d2
 replace d3:=lift l47 d3
 replace d4:=lift l47 d4
 replace d5:=lift l47 d5
 replace d6:=lift l47 d6
 replace d7:=lift l47 d7
 have cA:=fun(W:World) (hW:j4 H7 W)=>aU4 _ _ _ _ _ _ _ _ _ _ _ _ T H7 W hW twA twB
 replace cA:=fe6 cA
 have hw7:=x7.holds
 clear x6 y6 x4 hw4 tw6 eb7 l47 l7 cV hc0 hc1 hc2 hc3 hc4 O8 hc6 O9 twA twB sAb
 go_wp2_with(first|(go_at_call 24;go_must (refine(cA.out _ hw7).mono ?_);rintro e w8 ⟨rfl,hb8⟩;have x8:=x7.step (hb8.mono x7.below.size) (hw7.below hb8);have hw8:=x8.holds)|(go_at_call 25;go_must (refine(cS.out _ _ K _ _ hw8 sKa sKb).mono ?_);rintro e w9 ⟨rfl,hb9⟩;have x9:=x8.step (hb9.mono x8.below.size) (hw8.below hb9)))
 go_ret
 exact⟨rfl,x9.below⟩
theorem cc3 (lv:Value) (l:List ByteArray) (n:Int) (hnI:K8 n) (hsz:∀s∈l,s.size≤1100000) (H:j5) (w:World) (hw:j4 H w) (hl:Sl H lv l):
 Calls Tryz.prog 15 #[lv,.int .i64 n] w (I1 w (.bool (at5 (l.map A8) n))):=by
 obtain⟨al,cl,rfl,hl1,hl2⟩:=hl.form
 obtain⟨V,hV⟩:∃V,Hid (at5 (l.map A8) n=V):=⟨_,rfl⟩
 rw[hV.out]
 cases hwi:within n 0 ((l.length:Int)-1)
 ·have hv:V=false:=by
   rw[←hV.out]
   unfold at5
   unfold within at hwi
   simp at hwi ⊢
   intro h1 h2
   omega
  subst hv
  clear hV
  go_enter Tryz.func15,Tryz.ntmps15
  go_wp2_with(first|((go_at_call 26;refine(aD4 _ _ _ _).mono ?_;rintro e w5 ⟨rfl,rfl⟩;rw[hwi])))
  go_ret
  exact⟨rfl,Below.refl _ _⟩
 ·obtain⟨n0,n1⟩:0≤n∧n≤(l.length:Int)-1:=by unfold within at hwi;simpa using hwi
  obtain⟨N,rfl⟩:∃N:Nat,n=(N:Int):=⟨n.toNat,by omega⟩
  have hN:N<l.length:=by omega
  obtain⟨z,hz⟩:=At.mk hN
  have hk:=fun(W:World) (hW:j4 H W)=>aI0 z (hsz z hz.mem) H W hW
  have hv:V=decide ((A8 z).kind=1):=by
   rw[←hV.out]
   unfold at5
   rw[fh8,dl9 hN,ff3,show l[N]? =some z from hz,decide_eq_true (show(0:Int)≤(N:Int)by omega),decide_eq_true (show(N:Int)<((l.map A8).length:Int)by rw[fg5];omega)]
   rfl
  obtain⟨b1,o1,c1,hez,hszz,p1⟩:=hl.str hz
  cases hez
  have hN0:(0:Int)≤(N:Int):=by omega
  have hN1:(N:Int)<(l.length:Int):=by omega
  have hN2:(N:Int)≤(l.length:Int)-1:=by omega
  generalize(A8 z).kind=K at*
  replace hk:=fe6 hk
  replace hv:=fe6 hv
  clear hV hz n0 n1 hnI
  by_cases h1:K=1
  ·subst h1
   go_enter Tryz.func15,Tryz.ntmps15
   go_wp2_with(first|((go_at_call 26;refine(aD4 _ _ _ _).mono ?_;rintro e w5 ⟨rfl,rfl⟩;rw[hwi]))|((go_at_call 16;go_must (refine(hk.out _ hw).mono ?_);rintro e w4 ⟨rfl,hb4⟩)))
   go_ret
   exact⟨M0 (by rw[hv.out];rfl),hb4⟩
  ·go_enter Tryz.func15,Tryz.ntmps15
   go_wp2_with(first|((go_at_call 26;refine(aD4 _ _ _ _).mono ?_;rintro e w5 ⟨rfl,rfl⟩;rw[hwi]))|((go_at_call 16;go_must (refine(hk.out _ hw).mono ?_);rintro e w4 ⟨rfl,hb4⟩)))
   go_ret
   exact⟨M0 (by rw[hv.out];simp[h1]),hb4⟩
end
section
open Go.RowKit
attribute [local go_sem] j4.drew j4.alloc j4.drewN WB.holds Oper.semAt_some
def eA5 (xs ys:List ByteArray):Nat→List ByteArray
 |0=>[]
 |1=>xs
 |_=>xs++ys
theorem bG7 (va vb:Value) (xs ys:List ByteArray) (hx:xs.length≤2000000) (hy:ys.length≤2000000) (H:j5) (w:World) (hw:j4 H w) (h1:Sl H va xs) (h2:Sl H vb ys) (b:Nat)
 (d0:∀W,j4 H W→W.cell? ⟨b,0,none⟩=some va) (d1:∀W,j4 H W→W.cell? ⟨b,1,none⟩=some vb):
 Calls Tryz.prog 19 #[.slice (some ⟨b,0,none⟩) 2 2] w (Post w H fun u H'=>Sl H' u (xs++ys)):=by
 obtain⟨a1,c1,rfl,_,_⟩:=h1.form
 obtain⟨a2,c2,rfl,_,_⟩:=h2.form
 have aX9:Hid ((([]:List ByteArray).length+xs.length)*Enc.M4 ByteArray≤140737488355328):=by show _≤_;simp only[Enc.M4,fg1];omega
 have aH8:Hid (([]:List ByteArray).length+xs.length≤9223372036854775807):=by show _≤_;simp only[fg1];omega
 have eA6:Hid ((xs.length+ys.length)*Enc.M4 ByteArray≤140737488355328):=by show _≤_;simp only[Enc.M4];omega
 have eA7:Hid (xs.length+ys.length≤9223372036854775807):=by show _≤_;omega
 replace hx:=fe6 hx
 replace hy:=fe6 hy
 go_enter Tryz.func19,Tryz.ntmps19
 go_wp2_with fail
 go_loopw [3,4] (fun v i wr=>∃(k:Nat),k≤2∧i= .int .i64 (k:Int)∧Own H w.heap.size wr 9 v (eA5 xs ys k)∧Ext w H wr H) (fun v i _=>2-(intOf i).toNat)
 case atStart=>exact⟨0,by omega,rfl,Own.nil _ _ _ _,Ext.refl hw⟩
 case round=>
  obtain⟨k,hk,rfl,o,x⟩:=hrel
  have hwr:=x.holds
  match k,hk,o with
  |0,_,o=>
   replace o:Own H w.heap.size wr 9 _ ([]:List ByteArray):=o
   go_wp2_with(at_builtin;go_must (refine aj2 (w0:=w) (H0:=H) bi0 rfl _ _ rfl x rfl o rfl h1 aX9.out aH8.out ?_);intro v3 w3 o3 x3 hw3 g3;rw[ff9]at o3)
   go_roundw
   case rel=>exact⟨1,by omega,rfl,o3,x3⟩
   case measure=>simp[intOf]
  |1,_,o=>
   replace o:Own H w.heap.size wr 9 _ xs:=o
   go_wp2_with(at_builtin;go_must (refine aj2 (w0:=w) (H0:=H) bi0 rfl _ _ rfl x rfl o rfl h2 eA6.out eA7.out ?_);intro v3 w3 o3 x3 hw3 g3)
   go_roundw
   case rel=>exact⟨2,by omega,rfl,o3,x3⟩
   case measure=>simp[intOf]
  |2,_,o=>
   replace o:Own H w.heap.size wr 9 _ (xs++ys):=o
   obtain⟨H4,x5,l5,s5,_⟩:=o.close x
   go_wp2_with fail
   go_ret
   exact⟨_,H4,rfl,x5,s5⟩
end
section
open Go.RowKit
theorem bn8 {w0 w:World} {H0 H:j5} (hx:Ext w0 H0 w H) (a b:Value) (T:TypeId):
 ∃H2,D8 H H2∧Ext w0 H0 (w.alloc (.cells #[a,b] T)) H2∧(∀W,j4 H2 W→W.cell? ⟨w.heap.size,0,none⟩=some a)∧∀W,j4 H2 W→W.cell? ⟨w.heap.size,1,none⟩=some b:=by
 have hn:=hx.holds.D6 (fh0 w.heap.size)
 have hp:=j5.G7 H w.heap.size (.cells #[a,b] T (0,0))
 exact⟨_,j5.L9 hn _,(hx.alloc _).freeze hx.below.size (heap_alloc_new w _),fun W hW=>(D7 hp hW 0).trans rfl,fun W hW=>(D7 hp hW 1).trans rfl⟩
end
section
open Go.RowKit
attribute [local go_sem] j4.drew j4.alloc j4.drewN WB.holds Oper.semAt_some
theorem cc0 {n:Int} (h0:0≤n) (h1:n≤9999999):(G6 n).size≤7:=by
 obtain⟨k,rfl⟩:=Int.eq_ofNat_of_zero_le h0
 show(Lib.itoa (k:Int)).length≤7
 rw[ay2];exact aI6 _ 6 (by omega)
theorem bq9 (n:Int) (e:ByteArray) (he:e.size≤900) (h1:0≤n) (h2:n≤9999999) (w:World):
 Calls Tryz.prog 20 #[.int .i64 n,.string e] w (I1 w (.string (ch3 n e))):=by
 have ht:=fe6 (bL9 n (by omega) (by omega))
 have hz:(G6 n).size≤7:=cc0 h1 h2
 have hE:Hid ((⟨#[108,105,110,101,32]⟩:ByteArray)++G6 n++⟨#[32,105,115,32]⟩++e=ch3 n e):=dw9 n e
 generalize G6 n=T at*
 go_enter Tryz.func20,Tryz.ntmps20
 go_wp2_with(first|(go_at_call 41;refine(ht.out _).mono ?_;rintro e w4 ⟨rfl,hb4⟩))
 go_ret
 exact⟨by rw[←hE.out];rfl,hb4⟩
theorem dG2 {w0 w:World} {H0 H:j5} (hx:Ext w0 H0 w H) {a:ByteArray} (ha:∀x∈[a],x.size≤1000000):
 ∃H2,D8 H H2∧Ext w0 H0 (w.alloc (.cells #[.string a] 9)) H2∧Sl H2 (.slice (some ⟨w.heap.size,0,none⟩) 1 1) [a]:=
 aN5 hx [a] ha (by simp)
theorem by6 {n:Int} {e:ByteArray} (h1:0≤n) (h2:n≤9999999) (he:e.size≤40):(ch3 n e).size≤56:=by
 rw[←dw9,ByteArray.size_append,ByteArray.size_append,ByteArray.size_append]
 have:=cc0 h1 h2
 show 5+_+4+_≤_
 omega
end
section
open Go.RowKit
attribute [local go_sem] j4.drew j4.alloc j4.drewN WB.holds Oper.semAt_some Q9 O1 J7
theorem co3 (vm vb vt um uo ua lv:Value) (t:D5) (l:List ByteArray) (a b:ByteArray) (n m:Int) (H:j5) (dr:Doors H) (w:World) (hw:j4 H w) (ht:Twn H vm vb vt um uo ua t) (hl:Sl H lv l) (hza:a.size≤140737488355328) (hzb:b.size≤140737488355328) (hnI:K8 n) (hmI:K8 m)
 (hll:l.length≤1100000) (hsz:∀s∈l,s.size≤1100000):
 Calls Tryz.prog 6 #[ah0 vm vb vt um uo ua t,lv,.agg #[.int .i64 n,.string a,.int .i64 m,.string b]] w (I1 w (.bool true)):=by
 clear hza hzb hmI
 have cW:=fun(H':j5) (W:World) (hW:j4 H' W) (hle:D8 H H')=>aO6 H' (dr.mono hle) W hW
 replace cW:=fe6 cW
 have cI:=fun(H':j5) (W:World) (hW:j4 H' W) (hle:D8 H H')=>cc3 lv l n hnI hsz H' W hW (hl.mono hle)
 obtain⟨al,cl,rfl,hl1,hl2⟩:=hl.form
 by_cases hE:(40:Int)<(a.size:Int)∨(¬(40:Int)<(a.size:Int)∧((40:Int)<(b.size:Int)∨(¬(40:Int)<(b.size:Int)∧(at5 (l.map A8) n=false∨(at5 (l.map A8) n=true∧((A8 a).kind≠1∨((A8 a).kind=1∧(A8 b).kind≠1)))))))
 ·have cKa:=fun(hz:¬(40:Int)<(a.size:Int)) (H':j5) (W:World) (hW:j4 H' W)=>aI0 a (by omega) H' W hW
  have cKb:=fun(hz:¬(40:Int)<(b.size:Int)) (H':j5) (W:World) (hW:j4 H' W)=>aI0 b (by omega) H' W hW
  generalize(A8 a).kind=Ka at*
  generalize(A8 b).kind=Kb at*
  generalize at5 (l.map A8) n=bI at*
  rcases hE with za|⟨za,zb|⟨zb,hI|⟨hI,ka|⟨ka,kb⟩⟩⟩⟩
  all_goals
   (try subst hI)
   (try subst ka)
   replace cKa:=fe6 cKa
   replace cKb:=fe6 cKb
   replace cI:=fe6 cI
   clear ht dr hsz hll
   go_enter Tryz.func6,Tryz.ntmps6
   go_upto_region 1 with(first|(have hgd:=hx;refine uI7 rfl _ rfl hx ?_;intro C w2 H2 hle2 hx2 hC hCw;have g0:∀W,j4 H2 W→W.cell? ⟨C,0,none⟩=some (.int .i64 n):=fun W hW=>D7 hC hW 0;have g1:∀W,j4 H2 W→W.cell? ⟨C,1,none⟩=some (.string a):=fun W hW=>D7 hC hW 1;have g3:∀W,j4 H2 W→W.cell? ⟨C,3,none⟩=some (.string b):=fun W hW=>D7 hC hW 3;replace hc0:=lift hle2 hc0;replace hc1:=lift hle2 hc1;replace hc2:=lift hle2 hc2;replace hc3:=lift hle2 hc3;replace hc4:=lift hle2 hc4;replace O8:=lift hle2 O8;replace hc6:=lift hle2 hc6;replace O9:=lift hle2 O9;replace hle:=hle.trans hle2;clear hC hx hw1 hle2;have hw2:=hx2.holds)|(refine uI7 rfl _ rfl (Ext.refl hw) ?_;intro B w1 H1 hle hx hB hBw;obtain⟨hc0,hc1,hc2,hc3,hc4,O8,hc6,O9⟩:=I5 hB;clear hB hw;have hw1:=hx.holds))
   refine E8 H2 (by kernel_rfl) (by kernel_rfl) hw2 (fun hne=> ?_)
   repeat go_big_quiet_step((first|fail))
   refine wpQuiet_nil ?_
   rintro⟨w3,hw3,hb3⟩
   clear hne
   have x3:=hx2.step (hb3.mono hx2.below.size) (hw2.below hb3)
   have hw3:=x3.holds
   go_wp2_with(first|((go_at_call 15;go_must (refine(cI.out _ _ x3.holds hle).mono ?_);rintro e w4 ⟨rfl,hb4⟩;have x4:=x3.step (hb4.mono x3.below.size) (x3.holds.below hb4);have hw4:=x4.holds))|((have hgd:=hw5;clear hgd;go_at_call 16;go_must (refine(cKb.out zb _ _ hw5).mono ?_);rintro e w6 ⟨rfl,hb6⟩;have x6:=x5.step (hb6.mono x5.below.size) (hw5.below hb6);have hw6:=x6.holds;clear hw5))|((have hgd:=hw4;clear hgd;go_at_call 16;go_must (refine(cKa.out za _ _ hw4).mono ?_);rintro e w5 ⟨rfl,hb5⟩;have x5:=x4.step (hb5.mono x4.below.size) (hw4.below hb5);have hw5:=x5.holds;clear hw4))|((go_at_call 18;first|(refine(cW.out _ _ x6.holds hle).mono ?_;rintro e wz ⟨rfl,hbz⟩;have xz:=x6.step (hbz.mono x6.below.size) (x6.holds.below hbz))|(refine(cW.out _ _ x5.holds hle).mono ?_;rintro e wz ⟨rfl,hbz⟩;have xz:=x5.step (hbz.mono x5.below.size) (x5.holds.below hbz))|(refine(cW.out _ _ x4.holds hle).mono ?_;rintro e wz ⟨rfl,hbz⟩;have xz:=x4.step (hbz.mono x4.below.size) (x4.holds.below hbz))|(refine(cW.out _ _ x3.holds hle).mono ?_;rintro e wz ⟨rfl,hbz⟩;have xz:=x3.step (hbz.mono x3.below.size) (x3.holds.below hbz)))))
   go_ret
   exact⟨rfl,xz.below⟩
 have za:¬(40:Int)<(a.size:Int):=fun h=>hE (.inl h)
 have zb:¬(40:Int)<(b.size:Int):=fun h=>hE (.inr ⟨za,.inl h⟩)
 have hI:at5 (l.map A8) n=true:=by
  cases h:at5 (l.map A8) n
  ·exact absurd (.inr ⟨za,.inr ⟨zb,.inl h⟩⟩) hE
  ·rfl
 have ka:(A8 a).kind=1:=Decidable.byContradiction fun h=>hE (.inr ⟨za,.inr ⟨zb,.inr ⟨hI,.inl h⟩⟩⟩)
 have kb:(A8 b).kind=1:=Decidable.byContradiction fun h=>hE (.inr ⟨za,.inr ⟨zb,.inr ⟨hI,.inr ⟨ka,h⟩⟩⟩⟩)
 have cKa:=fun(H':j5) (W:World) (hW:j4 H' W)=>aI0 a (by omega) H' W hW
 have cKb:=fun(H':j5) (W:World) (hW:j4 H' W)=>aI0 b (by omega) H' W hW
 rw[hI]at cI
 rw[ka]at cKa
 rw[kb]at cKb
 obtain⟨n0,n1,nk⟩:=av3.1 hI
 rw[fg5]at n1
 have law:=fun(v:F6 t=true) (h:l.length+2≤24)=>cK2 v h hI ka kb
 have cLa:=bq9 n a (by omega) n0 (by omega)
 have cLb:=bq9 n b (by omega) n0 (by omega)
 have cLn:=bq9 n au8 (by decide) n0 (by omega)
 have dy6:(ch3 n a).size≤56:=by6 n0 (by omega) (by omega)
 have dy9:(ch3 n b).size≤56:=by6 n0 (by omega) (by omega)
 have dz0:(ch3 n au8).size≤56:=by6 n0 (by omega) (by decide)
 clear hE nk
 generalize ch3 n a=S1 at*
 generalize ch3 n b=S2 at*
 generalize ch3 n au8=S3 at*
 have dP7:∀x∈[S1,S2],x.size≤1000000:=fun x hx=>by simp at hx;rcases hx with h|h<;>(rw[h];omega)
 have dP8:∀x∈[S1,S3],x.size≤1000000:=fun x hx=>by simp at hx;rcases hx with h|h<;>(rw[h];omega)
 have eF4:∀x∈[S2],x.size≤1000000:=fun x hx=>by simp at hx;rw[hx];omega
 have eF5:∀x∈[S3],x.size≤1000000:=fun x hx=>by simp at hx;rw[hx];omega
 have cJ:=fun(q:List ByteArray) (hq:q.length≤2) (vb:Value) (H':j5) (W:World) (hW:j4 H' W) (hle:D8 H H') (h2:Sl H' vb q) (b:Nat) (d0:∀W,j4 H' W→W.cell? ⟨b,0,none⟩=some (.slice al l.length cl)) (d1:∀W,j4 H' W→W.cell? ⟨b,1,none⟩=some vb)=>bG7 (.slice al l.length cl) vb l q (by omega) (by omega) H' W hW (hl.mono hle) h2 b d0 d1
 have cJ2:=cJ [S1,S2] (by simp)
 have cJ3:=cJ [S2] (by simp)
 have cJ4:=cJ [S1,S3] (by simp)
 have y8:=cJ [S3] (by simp)
 have cY:=fun(lv:Value) (H':j5) (W:World) (hW:j4 H' W) (hle:D8 H H') (h2:Sl H' lv (l++[S1,S2]))=>aA3 vm vb vt um uo ua lv t (l++[S1,S2]) H' W hW (ht.mono hle) h2
 have cE:=fun(v:F6 t=true) (p q:List ByteArray) (h1:p.length≤24) (h2:q.length≤24) (z1:∀s∈p,s.size≤900) (z2:∀s∈q,s.size≤900) (hs:ba4 t p q=true) (lv mv:Value) (H':j5) (W:World) (hW:j4 H' W) (hle:D8 H H') (h1':Sl H' lv p) (h2':Sl H' mv q)=>cp5 vm vb vt um uo ua lv mv t p q v h1 h2 z1 z2 hs H' (dr.mono hle) W hW (ht.mono hle) h1' h2'
 have cEs:aF8 t (l++[S1,S2])=true→_∧_:=fun hr=>
  have R:=aL3.1 hr
  have hln:l.length+2≤24:=by have:=R.n;rw[ff4]at this;exact this
  have hz:=fun(s:ByteArray) (hs:s∈l)=>R.z s (List.mem_append.2 (.inl hs))
  have hq:=fun(q:List ByteArray) (hq:∀s∈q,s.size≤56) (s:ByteArray) (hs:s∈l++q)=>show s.size≤900 from by
   rcases List.mem_append.1 hs with h|h
   ·have:=hz s h;omega
   ·have:=hq s h;omega
  have h2:=fun(x y:ByteArray) (hx:x.size≤56) (hy:y.size≤56) (s:ByteArray) (hs:s∈[x,y])=>show s.size≤56 from by simp at hs;rcases hs with h|h<;>(rw[h];assumption)
  have h1:=fun(x:ByteArray) (hx:x.size≤56) (s:ByteArray) (hs:s∈[x])=>show s.size≤56 from by simp at hs;rw[hs];assumption
  And.intro (cE R.v (l++[S1,S2]) (l++[S2]) (by simp;omega) (by simp;omega) (hq _ (h2 _ _ dy6 dy9)) (hq _ (h1 _ dy9)) (law R.v hln).1)
   (cE R.v (l++[S1,S3]) (l++[S3]) (by simp;omega) (by simp;omega) (hq _ (h2 _ _ dy6 dz0)) (hq _ (h1 _ dz0)) (law R.v hln).2)
 obtain⟨r2,hr2⟩:∃r2,aF8 t (l++[S1,S2])=r2:=⟨_,rfl⟩
 rw[hr2]at cY cEs
 clear law cE cJ
 generalize l++[S1,S2]=L2 at*
 generalize l++[S2]=L3 at*
 generalize l++[S1,S3]=L4 at*
 generalize l++[S3]=L5 at*
 replace cI:=fe6 cI
 replace cKa:=fe6 cKa
 replace cKb:=fe6 cKb
 replace cLa:=fe6 cLa
 replace cLb:=fe6 cLb
 replace cLn:=fe6 cLn
 replace cJ2:=fe6 cJ2
 replace cJ3:=fe6 cJ3
 replace cJ4:=fe6 cJ4
 replace y8:=fe6 y8
 replace cY:=fe6 cY
 replace cEs:=fe6 cEs
 have mk1:Hid True:=fe6 trivial
 have mk2:Hid True:=fe6 trivial
 have mk3:Hid True:=fe6 trivial
 clear ht dr hsz hll hl dy6 dy9 dz0 hI ka kb n0 n1 hr2 hnI
 go_enter Tryz.func6,Tryz.ntmps6
 go_upto_region 1 with(first|(have hgd:=hx;refine uI7 rfl _ rfl hx ?_;intro C w2 H2 hle2 hx2 hC hCw;have g0:∀W,j4 H2 W→W.cell? ⟨C,0,none⟩=some (.int .i64 n):=fun W hW=>D7 hC hW 0;have g1:∀W,j4 H2 W→W.cell? ⟨C,1,none⟩=some (.string a):=fun W hW=>D7 hC hW 1;have g3:∀W,j4 H2 W→W.cell? ⟨C,3,none⟩=some (.string b):=fun W hW=>D7 hC hW 3;replace hc0:=lift hle2 hc0;replace hc1:=lift hle2 hc1;replace hc2:=lift hle2 hc2;replace hc3:=lift hle2 hc3;replace hc4:=lift hle2 hc4;replace O8:=lift hle2 O8;replace hc6:=lift hle2 hc6;replace O9:=lift hle2 O9;replace hle:=hle.trans hle2;clear hC hx hw1 hle2;have hw2:=hx2.holds)|(refine uI7 rfl _ rfl (Ext.refl hw) ?_;intro B w1 H1 hle hx hB hBw;obtain⟨hc0,hc1,hc2,hc3,hc4,O8,hc6,O9⟩:=I5 hB;clear hB hw;have hw1:=hx.holds))
 refine E8 H2 (by kernel_rfl) (by kernel_rfl) hw2 (fun hne=> ?_)
 repeat go_big_quiet_step((first|fail))
 refine wpQuiet_nil ?_
 rintro⟨w3,hw3,hb3⟩
 clear hne
 have x3:=hx2.step (hb3.mono hx2.below.size) (hw2.below hb3)
 have hw3:=x3.holds
 go_upto_region 5 with(first|(have hgd:=mk1;clear hgd;go_at_call 20;go_must (refine(cLa.out _).mono ?_);rintro e wa1 ⟨rfl,dz3⟩;have xa1:=x6.step (dz3.mono x6.below.size) (x6.holds.below dz3);clear mk1)|(have hgd:=mk2;clear hgd;go_at_call 20;go_must (refine(cLb.out _).mono ?_);rintro e wb1 ⟨rfl,dz4⟩;have xb1:=xa1.step (dz4.mono xa1.below.size) (xa1.holds.below dz4);clear mk2)|(go_at_call 19;obtain⟨HA,lA,xA,sO⟩:=aN5 xb1 [S1,S2] dP7 (by simp);obtain⟨HB,lB,xB,e0,e1⟩:=bn8 xA (.slice al (List.length l) cl) (.slice (some ⟨wb1.heap.size,0,none⟩) 2 2) 33;rw[World.size_alloc]at e0 e1;go_must (refine(cJ2.out _ _ _ xB.holds (hle.trans (lA.trans lB)) (sO.mono lB) _ e0 e1).mono ?_);rintro e wJ ⟨_,HJ,rfl,yJ,sJ⟩;obtain⟨pJ,qJ,rfl,_,_⟩:=sJ.form;have xJ:=xB.trans yJ;have lJ:=(lA.trans lB).trans (yJ.le xB.holds))|(go_at_call 15;go_must (refine(cI.out _ _ x3.holds hle).mono ?_);rintro e w4 ⟨rfl,hb4⟩;have x4:=x3.step (hb4.mono x3.below.size) (x3.holds.below hb4);have hw4:=x4.holds)|(have hgd:=hw5;clear hgd;go_at_call 16;go_must (refine(cKb.out _ _ hw5).mono ?_);rintro e w6 ⟨rfl,hb6⟩;have x6:=x5.step (hb6.mono x5.below.size) (hw5.below hb6);have hw6:=x6.holds;clear hw5)|(have hgd:=hw4;clear hgd;go_at_call 16;go_must (refine(cKa.out _ _ hw4).mono ?_);rintro e w5 ⟨rfl,hb5⟩;have x5:=x4.step (hb5.mono x4.below.size) (hw4.below hb5);have hw5:=x5.holds;clear hw4))
 have hwJ:=xJ.holds
 replace hc0:=lift lJ hc0
 replace hc1:=lift lJ hc1
 replace hc2:=lift lJ hc2
 replace hc3:=lift lJ hc3
 replace hc4:=lift lJ hc4
 replace O8:=lift lJ O8
 replace hc6:=lift lJ hc6
 replace O9:=lift lJ O9
 replace hle:=hle.trans lJ
 replace hw6:=hwJ
 clear hx2 x3 x4 x5 x6 xA xB yJ lA lB e0 e1 sO hw2 hw3 hb3 hb4 hb5 hb6 cKa cKb cI lJ xa1 xb1 dz3 dz4
 cases r2
 ·go_wp2_with(first|(go_at_call 17;go_must (refine(cY.out _ _ _ hwJ hle sJ).mono ?_);rintro e w7 ⟨rfl,hb7⟩;have x7:=xJ.step (hb7.mono xJ.below.size) (hwJ.below hb7);have hw7:=x7.holds)|(go_at_call 18;(refine(cW.out _ _ x7.holds hle).mono ?_;rintro e wz ⟨rfl,hbz⟩;have xz:=x7.step (hbz.mono x7.below.size) (x7.holds.below hbz))))
  go_ret
  exact⟨rfl,xz.below⟩
 obtain⟨H8,cE5⟩:=cEs.out rfl
 replace H8:=fe6 H8
 replace cE5:=fe6 cE5
 clear cEs
 go_upto_region 7 with(go_at_call 17;go_must (refine(cY.out _ _ _ hwJ hle sJ).mono ?_);rintro e w7 ⟨rfl,hb7⟩;have x7:=xJ.step (hb7.mono xJ.below.size) (hwJ.below hb7);have hw7:=x7.holds)
 clear xJ hwJ hb7
 refine U1 (S:=(fun w'=>j4 HJ w')) 10 (by kernel_rfl) (by kernel_rfl) ?_ (fun N9=> ?_)
 ·(try dsimp only)
  (first|assumption|exact j4.drew ‹_›|exact j4.alloc ‹_› _)
 simp only[ff8,fg1,fh6,fh7,fg9,fg8,fg3,ff9,fg2]
 have xk0:=x7.drew
 have lk0:D8 HJ HJ:=D8.refl _
 generalize World.drew w7=wk0 at*
 refine hdA 0 ?_
 refine hdA 1 ?_
 refine hdA 2 ?_
 refine hdA 3 ?_
 refine hdA 4 ?_
 (try simp only[Act.put,fe7,ff1,ff2])
 refine hdR 5 [] (fun K hK=> ?_) r9.nil
 go_simp
 go_at_call 20
 go_must (refine(cLb.out _).mono ?_)
 rintro e wk1 ⟨rfl,hb⟩
 have xk1:=xk0.step (hb.mono xk0.below.size) (xk0.holds.below hb)
 have kk:=xk1.holds.mono lk0
 clear hb
 refine hK.out _ _ kk (fun I4=> ?_)
 clear hK K
 (try clear N9)
 (try simp only[Act.put,fe7,ff1,ff2])
 refine hdR 6 [] (fun K hK=> ?_) r9.nil
 go_simp
 obtain⟨Gk1,lq,y,sQ⟩:=dG2 (Ext.refl xk1.holds) eF4
 generalize World.alloc wk1 (.cells #[.string S2] 9)=wk2 at*
 generalize(World.heap wk1).size=gq at*
 have xk2:=xk1.trans y
 have lk1:=lk0.trans (y.le xk1.holds)
 have kk:=xk2.holds.mono lk1
 clear y
 refine hK.out _ _ kk (fun F8=> ?_)
 clear hK K
 (try clear I4)
 (try simp only[Act.put,fe7,ff1,ff2])
 refine hdR 7 [] (fun K hK=> ?_) r9.nil
 go_simp
 obtain⟨Gk2,lr,y,e0,e1⟩:=bn8 (Ext.refl xk2.holds) (.slice al (List.length l) cl) (.slice (some ⟨gq,0,none⟩) 1 1) 33
 replace sQ:=sQ.mono lr
 generalize World.alloc wk2 (.cells #[.slice al (List.length l) cl,.slice (some ⟨gq,0,none⟩) 1 1] 33)=wk3 at*
 generalize(World.heap wk2).size=gs at*
 have xk3:=xk2.trans y
 have lk2:=lk1.trans (y.le xk2.holds)
 have kk:=xk3.holds.mono lk2
 clear y
 refine hK.out _ _ kk (fun F9=> ?_)
 clear hK K
 (try clear F8)
 (try simp only[Act.put,fe7,ff1,ff2])
 refine hdR 8 [] (fun K hK=> ?_) r9.nil
 go_simp
 go_at_call 19
 go_must (refine(cJ3.out _ _ _ xk3.holds (hle.trans lk2) sQ _ e0 e1).mono ?_)
 rintro e wk4 ⟨_,Gk3,rfl,y,sM⟩
 obtain⟨pM,qM,rfl,_,_⟩:=sM.form
 have xk4:=xk3.trans y
 have lk3:=lk2.trans (y.le xk3.holds)
 have kk:=xk4.holds.mono lk3
 clear y
 refine hK.out _ _ kk (fun I7=> ?_)
 clear hK K
 (try clear F9)
 (try simp only[Act.put,fe7,ff1,ff2])
 refine hdR 9 [] (fun K hK=> ?_) r9.nil
 go_simp
 go_at_call 22
 go_must (refine(H8.out _ _ _ _ xk4.holds (hle.trans lk3) (sJ.mono lk3) sM).mono ?_)
 rintro e wk5 ⟨rfl,hb⟩
 have xk5:=xk4.step (hb.mono xk4.below.size) (xk4.holds.below hb)
 have kk:=xk5.holds.mono lk3
 clear hb
 refine hK.out _ _ kk (fun aa1=> ?_)
 clear hK K
 (try clear I7)
 (try simp only[Act.put,fe7,ff1,ff2])
 refine G9 (by kernel_rfl) ?_
 simp only[ff5,ff6]
 have hwk:=xk5.holds
 go_upto_region 10 with(first|(have hgd:=mk3;clear hgd;go_at_call 20;go_must (refine(cLa.out _).mono ?_);rintro e wa2 ⟨rfl,ej5⟩;have xa2:=xk5.step (ej5.mono xk5.below.size) (xk5.holds.below ej5);clear mk3)|(go_at_call 20;go_must (refine(cLn.out _).mono ?_);rintro e wb2 ⟨rfl,ej7⟩;have xb2:=xa2.step (ej7.mono xa2.below.size) (xa2.holds.below ej7))|(go_at_call 19;obtain⟨HA,lA,xA,sO⟩:=aN5 xb2 [S1,S3] dP8 (by simp);obtain⟨HB,lB,xB,e0,e1⟩:=bn8 xA (.slice al (List.length l) cl) (.slice (some ⟨wb2.heap.size,0,none⟩) 2 2) 33;rw[World.size_alloc]at e0 e1;go_must (refine(cJ4.out _ _ _ xB.holds ((hle.trans lk3).trans (lA.trans lB)) (sO.mono lB) _ e0 e1).mono ?_);rintro e w9 ⟨_,H9,rfl,yJ,s9⟩;obtain⟨p9,q9,rfl,_,_⟩:=s9.form;have x9:=xB.trans yJ;have l9:=(lA.trans lB).trans (yJ.le xB.holds)))
 replace hle:=(hle.trans lk3).trans l9
 replace hc0:=lift (lk3.trans l9) hc0
 replace hc1:=lift (lk3.trans l9) hc1
 replace hc2:=lift (lk3.trans l9) hc2
 replace hc3:=lift (lk3.trans l9) hc3
 replace hc4:=lift (lk3.trans l9) hc4
 replace O8:=lift (lk3.trans l9) O8
 replace hc6:=lift (lk3.trans l9) hc6
 replace O9:=lift (lk3.trans l9) O9
 have hw9:=x9.holds
 clear xA xB yJ lA lB e0 e1 sO sM sQ
 refine U1 (S:=(fun w'=>j4 H9 w')) 12 (by kernel_rfl) (by kernel_rfl) ?_ (fun N9=> ?_)
 ·(try dsimp only)
  (first|assumption|exact j4.drew ‹_›|exact j4.alloc ‹_› _)
 simp only[ff8,fg1,fh6,fh7,fg9,fg8,fg3,ff9,fg2]
 have xm0:=x9.drew
 have lm0:D8 H9 H9:=D8.refl _
 generalize World.drew w9=wm0 at*
 refine hdA 0 ?_
 refine hdA 1 ?_
 refine hdA 2 ?_
 refine hdA 3 ?_
 (try simp only[Act.put,fe7,ff1,ff2])
 refine hdR 4 [] (fun K hK=> ?_) r9.nil
 go_simp
 go_at_call 20
 go_must (refine(cLn.out _).mono ?_)
 rintro e wm1 ⟨rfl,hb⟩
 have xm1:=xm0.step (hb.mono xm0.below.size) (xm0.holds.below hb)
 have kk:=xm1.holds.mono lm0
 clear hb
 refine hK.out _ _ kk (fun I4=> ?_)
 clear hK K
 (try clear N9)
 (try simp only[Act.put,fe7,ff1,ff2])
 refine hdR 5 [] (fun K hK=> ?_) r9.nil
 go_simp
 obtain⟨Gm1,lq,y,sQ⟩:=dG2 (Ext.refl xm1.holds) eF5
 generalize World.alloc wm1 (.cells #[.string S3] 9)=wm2 at*
 generalize(World.heap wm1).size=gp at*
 have xm2:=xm1.trans y
 have lm1:=lm0.trans (y.le xm1.holds)
 have kk:=xm2.holds.mono lm1
 clear y
 refine hK.out _ _ kk (fun F8=> ?_)
 clear hK K
 (try clear I4)
 (try simp only[Act.put,fe7,ff1,ff2])
 refine hdR 6 [] (fun K hK=> ?_) r9.nil
 go_simp
 obtain⟨Gm2,lr,y,e0,e1⟩:=bn8 (Ext.refl xm2.holds) (.slice al (List.length l) cl) (.slice (some ⟨gp,0,none⟩) 1 1) 33
 replace sQ:=sQ.mono lr
 generalize World.alloc wm2 (.cells #[.slice al (List.length l) cl,.slice (some ⟨gp,0,none⟩) 1 1] 33)=wm3 at*
 generalize(World.heap wm2).size=gr at*
 have xm3:=xm2.trans y
 have lm2:=lm1.trans (y.le xm2.holds)
 have kk:=xm3.holds.mono lm2
 clear y
 refine hK.out _ _ kk (fun F9=> ?_)
 clear hK K
 (try clear F8)
 (try simp only[Act.put,fe7,ff1,ff2])
 refine hdR 7 [] (fun K hK=> ?_) r9.nil
 go_simp
 go_at_call 19
 go_must (refine(y8.out _ _ _ xm3.holds (hle.trans lm2) sQ _ e0 e1).mono ?_)
 rintro e wm4 ⟨_,Gm3,rfl,y,sM⟩
 obtain⟨pM,qM,rfl,_,_⟩:=sM.form
 have xm4:=xm3.trans y
 have lm3:=lm2.trans (y.le xm3.holds)
 have kk:=xm4.holds.mono lm3
 clear y
 refine hK.out _ _ kk (fun I7=> ?_)
 clear hK K
 (try clear F9)
 (try simp only[Act.put,fe7,ff1,ff2])
 refine hdR 8 [] (fun K hK=> ?_) r9.nil
 go_simp
 go_at_call 22
 go_must (refine(cE5.out _ _ _ _ xm4.holds (hle.trans lm3) (s9.mono lm3) sM).mono ?_)
 rintro e wm5 ⟨rfl,hb⟩
 have xm5:=xm4.step (hb.mono xm4.below.size) (xm4.holds.below hb)
 have kk:=xm5.holds.mono lm3
 clear hb
 refine hK.out _ _ kk (fun aa1=> ?_)
 clear hK K
 (try clear I7)
 refine hdA 9 ?_
 (try simp only[Act.put,fe7,ff1,ff2])
 refine hdR 10 [] (fun K hK=> ?_) r9.nil
 go_simp
 go_at_call 18
 go_must (refine(cW.out _ _ xm5.holds (hle.trans lm3)).mono ?_)
 rintro e wm6 ⟨rfl,hb⟩
 have xm6:=xm5.step (hb.mono xm5.below.size) (xm5.holds.below hb)
 have kk:=xm6.holds.mono lm3
 clear hb
 refine hK.out _ _ kk (fun bS4=> ?_)
 clear hK K
 (try clear aa1)
 refine hdA 11 ?_
 (try simp only[Act.put,fe7,ff1,ff2])
 refine G9 (by kernel_rfl) ?_
 simp only[ff5,ff6]
 go_wp2_with fail
 go_ret
 exact⟨rfl,xm6.below⟩
end
end Go.Proofs.YtbliehinagkldaaGreatDoor
