/- Lemmas and the walk of the law OverseerCorrected (names and blanks made short by a program). -/
import Derived.Test.YtbliehinagkldaaGreatDoorG18
set_option linter.all false
set_option maxRecDepth 100000
set_option maxHeartbeats 16000000
open Go.Lib renaming hid → fe6
open List renaming setIfInBounds_toArray → fe7, getElem?_cons_zero → fe8, getElem?_cons_succ → fe9, getElem?_toArray → ff0, set_cons_zero → ff1, set_cons_succ → ff2, getD_eq_getElem?_getD → ff3, drop_succ_cons → ff5, drop_zero → ff6, length_cons → ff8, nil_append → ff9, getElem?_eq_getElem → fg0, length_nil → fg1, cons_append → fg2, push_toArray → fg3, length_map → fg5
open Array renaming replicate_zero → fg8, replicate_succ → fg9
open Nat renaming le_refl → fh0, le_trans → fh1, zero_le → fh3, reduceAdd → fh6, reduceSub → fh7
open Int renaming toNat_natCast → fh8
open Bool renaming and_eq_true → fh9
namespace Go.Proofs.YtbliehinagkldaaGreatDoor
section
open Go.RowKit
theorem cc7 {α:Type} [Enc α] (h1:Enc.sz α=1) {H:j5} {y:α} {a:Value} (hy:Enc.rep H y [a]):∀{xs:List α} {cs:List Value} {k:Nat},P6 H xs cs→k<xs.length→
 P6 H (xs.set k y) (cs.set k a)
 |[],_,_,_,hk=>by simp at hk
 |x::xs,cs,k,⟨c1,c2,e,hx,h2⟩,hk=>by
  have hl:=Enc.len hx
  rw[h1]at hl
  match c1,hl with
  |[p],_=>
   subst e
   cases k with
   |zero=>exact⟨[a],c2,rfl,hy,h2⟩
   |succ k=>exact⟨[p],c2.set k a,rfl,hx,cc7 h1 hy h2 (by simpa using hk)⟩
theorem Own.y8 {α:Type} [Enc α] (h1:Enc.sz α=1) {H:j5} {base:Nat} {w:World} {e:TypeId} {v:Value} {xs:List α} {k:Nat} (h:Own H base w e v xs) (hk:k<xs.length):
 ∃g c,v= .slice (some ⟨g,0,none⟩) xs.length c∧base≤g∧H g=none∧g<w.heap.size∧(∃u,w.cell? ⟨g,k,none⟩=some u)∧w.frozen? ⟨g,k,none⟩=false∧
  ∀(y:α) (p:Value),Enc.rep H y [p]→Own H base (w.setCell ⟨g,k,none⟩ p) e v (xs.set k y):=by
 obtain⟨cells,⟨hl,ho⟩,hr,hf,hb⟩:=h
 rcases ho with⟨rfl,hn⟩|⟨g,cap,cur,rfl,hbg,hg,hnc,hcm,hcs,htake⟩
 ·omega
 ·rw[h1,Nat.mul_one]at hl hcs htake
  have hk2:k<cur.size:=by omega
  refine⟨g,cap,rfl,hbg,hf g rfl,(Array.getElem?_eq_some_iff.1 hg).1,⟨cur[k], ?_⟩,by simp[World.frozen?,hg],fun y p hy=> ?_⟩
  ·rw[cell_of_row w g k cur e (0,0) hg];exact Array.getElem?_eq_getElem hk2
  refine⟨_,⟨?_,.inr ⟨g,cap,cur.setIfInBounds k p,by rw[List.length_set],hbg,Q4 hg _,by rw[List.length_set];exact hnc,hcm,by simp[h1,hcs], ?_⟩⟩,cc7 h1 hy hr hk,hf,by rw[List.length_set];exact hb⟩
  ·simp[h1,hl]
  ·rw[List.length_set,h1,Nat.mul_one]
   simp only[Array.toList_setIfInBounds]
   rw[List.take_set,htake]
end
section
open Go.RowKit
theorem hdB {P:Program} {md:Region.Mode} {ops:Array Oper} {Q:Exit→Act→World→Prop} {S:World→Prop} {n g:Nat} {tl:List Oper} (i:Nat) {oi:Oper} {v:Value} {f:Nat} {listed:Array Bool} {a:Act} {w:World} (h:hdI P md ops Q S n g tl f (listed.setIfInBounds i true) (a.put oi.dst v) w)
 (hi:ops[i]? =some oi:=by simp only[ff0,fe9,fe8]<;>rfl) (hb:(Region.noSelect ops&&Region.free md ops listed i&&((Region.ready md ops listed).contains i&&decide (i<n)))=true:=by kernel_rfl)
 (hQ:∀c a w,Q (.panic c) (a.put oi.dst v) w→Q (.panic c) a w:=by exact fun _ _ _ h=>h) (hg:Region.wanted oi (yielded ops a.tmps)=true:=by kernel_rfl) (hy:∀w,S w→(execOp a.eval oi).run P w= .ok (.value v) w:=by intro w hSw;(try dsimp only at hSw);go_simp;(try(with_reducible rfl))) (hS:S w:=by assumption):hdI P md ops Q S n g tl (f+1) listed a w:=D9 i hi hb hQ hg hy hS h
end
section
open Go.RowKit Go.ChangeShapes Go.WideShapes Go.Deep
theorem aJ9 (w:World):j4 (ad6 w) w:=⟨fun _ _ e=>e⟩
end
section
theorem ay0 (a b:ByteArray):C9 (J8 (C8 a++32::C8 b))=C9 a++C9 b:=by
 unfold C9
 rw[show C8 (J8 (C8 a++32::C8 b))=C8 a++32::C8 b from rfl,bi7,List.map_append]
theorem ap5 {a:ByteArray} (h:∀b∈C8 a,b≠32):C9 a=[a]:=by
 unfold C9
 rw[aF1 h]
 rfl
theorem ca0 (a:ByteArray):C9 a≠[]:=fun e=>aB3 (C8 a) (by unfold C9 at e;exact List.map_eq_nil_iff.1 e)
theorem da9 (n:Int):∀b∈Lib.itoa n,b≠32:=fun b hb e=>by
 have key:∀u,b∈Lib.decDigits u→False:=fun u hu=>by
  have:=ah8.1 (List.all_eq_true.1 (aU5 u) b hu)
  rw[e]at this
  have h32:(32:UInt8).toNat=32:=rfl
  omega
 unfold Lib.itoa at hb
 split at hb
 ·rcases List.mem_cons.1 hb with h|h
  ·rw[e]at h;cases h
  ·exact key _ h
 ·exact key _ hb
end
section
theorem cG9 (t:D5) (l m:List F7):Z5 t (l++m)=Z5 (Z5 t l) m:=by
 induction l generalizing t with
 |nil=>rfl
 |cons x l ih=>exact ih _
theorem df9 (t:D5) (l m:List F7):aZ9 t (l++m)=aZ9 t l++aZ9 (Z5 t l) m:=by
 induction l generalizing t with
 |nil=>rfl
 |cons x l ih=>show _++aZ9 _ (l++m)=_;rw[ih,←List.append_assoc];rfl
theorem dg0 (t:D5) (l:List F7):Z5 t (l++[E9])=Z5 t l:=by rw[cG9];rfl
theorem dU5 (t:D5) (l:List F7):aZ9 t (l++[E9])=aZ9 t l:=by rw[df9];exact List.append_nil _
theorem do1 (s:ByteArray):C9 s≠[]:=ca0 s
end
section
theorem db2 (u:Nat):ar2 (Lib.decDigits u)=Lib.decDigits u:=by
 have h:=cm2 u
 unfold ar2
 split
 ·rename_i r hr;rw[hr]at h;exact absurd rfl h
 ·rfl
theorem db3 {n:Int} (h1: -1000000<n) (h2:n<1000000):O5 (G6 n)=some n:=by
 refine cm3 (w:=G6 n) (v:=n) rfl ?_
 show(ar2 (Lib.itoa n)).length≤6
 unfold Lib.itoa
 split
 ·exact aI6 _ 5 (by omega)
 ·rw[db2];exact aI6 _ 5 (by omega)
theorem dd7 (n:Int) (e:ByteArray):C9 (ch3 n e)=ad5::G6 n::wIs::C9 e:=by
 have h:ch3 n e=J8 (C8 ad5++32::C8 (J8 (C8 (G6 n)++32::C8 (J8 (C8 wIs++32::C8 e))))):=by
  unfold ch3
  show J8 _=J8 ([108,105,110,101]++32::(C8 (G6 n)++32::([105,115]++32::C8 e)))
  simp
 rw[h,ay0,ay0,ay0,ap5 (a:=ad5) (by decide),ap5 (a:=wIs) (by decide),ap5 (a:=G6 n) (da9 n)]
 rfl
theorem cM8 {w:ByteArray} {l:List ByteArray} (h:O5 w=none):T9 (w::l)=none:=by unfold T9;rw[h]
theorem cz5 {w:ByteArray} {l:List ByteArray} (h:T9 l=none):T9 (w::l)=none:=by unfold T9;rw[h];split<;>simp_all
theorem ce1 {n:Int} {e:ByteArray} (h1: -1000000<n) (h2:n<1000000):A8 (ch3 n e)=if C9 e=[au8]then{E9 with kind:=6,of:=n}else if(A7 (C9 e)).kind=1 then{A7 (C9 e)with kind:=5,of:=n}else E9:=by
 unfold A8
 rw[dd7]
 have h0:A7 (ad5::G6 n::wIs::C9 e)=E9:=aN9 (cz5 (cM8 (by decide)))
 unfold ac8
 rw[if_neg (by rw[h0];decide)]
 simp only[db3 h1 h2]
 rw[if_neg (by decide),if_neg (by decide),if_pos trivial,if_neg]
 rintro(h|h)
 ·exact do1 e h
 ·exact h rfl
theorem dg1:C9 au8=[au8]:=ap5 (by decide)
theorem aR6 {n:Int} (h1: -1000000<n) (h2:n<1000000):A8 (ch3 n au8)={E9 with kind:=6,of:=n}:=by rw[ce1 h1 h2,if_pos dg1]
theorem ax3 {n:Int} {e:ByteArray} (h1: -1000000<n) (h2:n<1000000) (he:(A8 e).kind=1):A8 (ch3 n e)={A8 e with kind:=5,of:=n}:=by
 have e1:A8 e=A7 (C9 e):=bH4 (.inl he)
 rw[ce1 h1 h2,if_neg,←e1,if_pos he]
 intro hs
 rw[e1,hs]at he
 revert he
 decide
theorem dD7 {n:Int}:av1 {E9 with kind:=6,of:=n}=E9:=rfl
theorem dU6 {l:List F7} {x:F7} (hk:x.kind=5∨x.kind=6) (he:at5 l x.of=true):aa4 (l++[x])=(aa4 l).set x.of.toNat (av1 x)++[E9]:=by
 rw[aD5]
 unfold ak4
 rw[if_neg (by omega),if_pos ⟨hk,he⟩]
 rfl
theorem db4 {l:List F7} {x:F7} (hk:x.kind≠1) (he:(x.kind=5∨x.kind=6)→at5 l x.of=false):aa4 (l++[x])=aa4 l++[E9]:=by
 rw[aD5]
 unfold ak4
 rw[if_neg hk,if_neg]
 rintro⟨h1,h2⟩
 rw[he h1]at h2;cases h2
theorem dH2 {l:List F7} {x:F7} (hk:x.kind=1):aa4 (l++[x])=aa4 l++[x]:=by
 rw[aD5]
 unfold ak4
 rw[if_pos hk]
def cm6 (x:F7):F7:=if x.kind=1 then x else E9
theorem aI7:∀l:List F7,(∀x∈l,x.kind≠5∧x.kind≠6)→aa4 l=l.map cm6:=ad1 (fun _=>rfl) fun l x ih h=>by
 have hx:=h x (by simp)
 rw[List.map_append,List.map_singleton,←ih fun y hy=>h y (by simp[hy])]
 by_cases hk:x.kind=1
 ·rw[dH2 hk];unfold cm6;rw[if_pos hk]
 ·rw[db4 hk (by omega)];unfold cm6;rw[if_neg hk]
theorem ce3 {l:List F7} {n:Int}:at5 l n=true↔0≤n∧n<(l.length:Int)∧(l.getD n.toNat E9).kind=1:=by
 unfold at5;simp[and_assoc]
def ba7 (t:D5) (a b:List ByteArray):Bool:=decide (V5 t a=V5 t b)&&decide (O0 t a=O0 t b)
theorem bK7 {t:D5} {a b:List ByteArray} (v:F6 t=true) (ha:a.length≤24) (hb:b.length≤24)
 (h:Z5 t (aa4 (a.map A8))=Z5 t (aa4 (b.map A8))∧aZ9 t (aa4 (a.map A8))=aZ9 t (aa4 (b.map A8))):ba7 t a b=true:=by
 unfold ba7
 rw[aK0 v ha,aK0 v hb,aS9 v ha,aS9 v hb,decide_eq_true h.1,decide_eq_true h.2];rfl
theorem cv4 {t:D5} {l m:List F7} (h:l=m++[E9]):Z5 t l=Z5 t m∧aZ9 t l=aZ9 t m:=by rw[h];exact⟨dg0 _ _,dU5 _ _⟩
theorem bO9:A8 ⟨#[]⟩=E9:=by decide
theorem bM2 {l:List ByteArray} {n:Nat} (h:n<l.length):(l.map A8).getD n E9=A8 (l.getD n ⟨#[]⟩):=by
 rw[ff3,ff3,List.getElem?_map,fg0 h];rfl
theorem bj0 {x:F7} (h:x.kind=1):cm6 x=x:=by unfold cm6;rw[if_pos h]
theorem cr1 {l:List F7} {n:Nat}:l.set n (l.getD n E9)=l:=by
 by_cases h:n<l.length
 ·rw[ff3,fg0 h];exact List.set_getElem_self h
 ·exact List.set_eq_of_length_le (by omega)
theorem cr2 {t:D5} {l:List ByteArray} {n:Int} {e:ByteArray} (v:F6 t=true) (hl:l.length<24) (hn:at5 (l.map A8) n=true) (he:(A8 e).kind=1) (hc:∀s∈l,(A8 s).kind≠5∧(A8 s).kind≠6):
 ba7 t (l++[ch3 n e]) (l.set n.toNat e)=true∧ba7 t (l++[ch3 n (l.getD n.toNat ⟨#[]⟩)]) l=true∧ba7 t (l++[ch3 n au8]) (l.set n.toNat ⟨#[]⟩)=true:=by
 obtain⟨n0,n1,nk⟩:=ce3.1 hn
 rw[fg5]at n1
 have hnl:n.toNat<l.length:=by omega
 have h1: -1000000<n:=by omega
 have h2:n<1000000:=by omega
 have hno:∀x∈l.map A8,x.kind≠5∧x.kind≠6:=fun x hx=>by
  obtain⟨s,hs,rfl⟩:=List.mem_map.1 hx
  exact hc s hs
 have hpl:=aI7 _ hno
 have hset:∀s:ByteArray,(A8 s).kind≠5∧(A8 s).kind≠6→aa4 ((l.set n.toNat s).map A8)=((l.map A8).map cm6).set n.toNat (cm6 (A8 s)):=fun s hs=>by
  rw[List.map_set,aI7,List.map_set]
  intro x hx
  rcases List.mem_or_eq_of_mem_set hx with hx|rfl
  ·exact hno x hx
  ·exact hs
 have hfix:∀s:ByteArray,(A8 (ch3 n s)).of=n→((A8 (ch3 n s)).kind=5∨(A8 (ch3 n s)).kind=6)→aa4 ((l++[ch3 n s]).map A8)=((l.map A8).map cm6).set n.toNat (av1 (A8 (ch3 n s)))++[E9]:=fun s ho hk=>by
  rw[List.map_append,List.map_singleton,dU6 hk (by rw[ho];exact hn),hpl,ho]
 rw[bM2 hnl]at nk
 have hto:=(ca2 (.inl he)).2
 have eH3:=(ca2 (.inl nk)).2
 refine⟨bK7 v (by simp;omega) (by simp;omega) ?_,bK7 v (by simp;omega) (by omega) ?_,bK7 v (by simp;omega) (by simp;omega) ?_⟩
 ·rw[hset e (by omega),hfix e (by rw[ax3 h1 h2 he]) (by rw[ax3 h1 h2 he];exact .inl rfl),ax3 h1 h2 he,dH1 he hto,bj0 he]
  exact cv4 rfl
 ·rw[hfix _ (by rw[ax3 h1 h2 nk]) (by rw[ax3 h1 h2 nk];exact .inl rfl),ax3 h1 h2 nk,dH1 nk eH3,hpl]
  have e2:A8 (l.getD n.toNat ⟨#[]⟩)=((l.map A8).map cm6).getD n.toNat E9:=by
   have h3:=bM2 (l:=l) hnl
   have h4:((l.map A8).map cm6).getD n.toNat E9=cm6 (A8 (l.getD n.toNat ⟨#[]⟩)):=by
    rw[ff3,ff3,List.getElem?_map,List.getElem?_map,fg0 hnl];rfl
   rw[h4,bj0 nk]
  rw[e2,cr1]
  exact cv4 rfl
 ·rw[hset ⟨#[]⟩ (by rw[bO9];decide),hfix _ (by rw[aR6 h1 h2]) (by rw[aR6 h1 h2];exact .inr rfl),aR6 h1 h2,dD7,bO9]
  exact cv4 rfl
end
section
open Go.RowKit Go.ChangeShapes Go.WideShapes Go.Deep
section
variable {H:Type} {enc:TypeId × Value→H} {W:World} {sp:Nat→Bool} {hd:Bool}
theorem dD8 {H:Type} (d:DataW H):1≤Rows.uptoBulk d:=by
 cases d with
 |lit l=>cases l<;>simp[Rows.uptoBulk]
 |nil=>simp[Rows.uptoBulk]
 |ptr d=>simp[Rows.uptoBulk]
 |slice elems spare=>simp[Rows.uptoBulk]
 |agg parts=>simp[Rows.uptoBulk]
 |iface t d=>simp[Rows.uptoBulk]
 |map entries=>simp[Rows.uptoBulk]
 |held h=>simp[Rows.uptoBulk]
theorem ce6 {H:Type} {d:DataW H} {l:List (DataW H)} (h:d∈l):Rows.uptoBulk d≤Rows.uptoBulkAll l:=by
 induction l with
 |nil=>cases h
 |cons x r ih=>
  simp only[Rows.uptoBulkAll]
  cases List.mem_cons.1 h with
  |inl e=>subst e;omega
  |inr e=>have:=ih e;omega
theorem dD9 {H:Type} (l:List (DataW H)):l.length≤Rows.uptoBulkAll l:=by
 induction l with
 |nil=>simp[Rows.uptoBulkAll]
 |cons x r ih=>have:=dD8 x;simp only[Rows.uptoBulkAll,ff8];omega
theorem dd8 {H:Type} (elems spare:List (DataW H)):Rows.uptoBulkAll elems+1≤Rows.uptoBulk (.slice elems spare):=by
 simp only[Rows.uptoBulk]
 omega
theorem de1 {n:Nat} {v:Value} {y:DataW H × List MemPlace} {xs:List ByteArray} (h:DataW.trod enc Tryz.prog W 0 sp hd n 33 [v]=some y) (hs:Sl (ad6 W) v xs):
 xs.length≤Rows.uptoBulk y.1∧∀s∈xs,s.size≤Rows.uptoBulk y.1:=by
 have hc:Tryz.prog.cellsOf 9=1:=by kernel_rfl
 obtain⟨a',c',ev,_,_⟩:=hs.form
 rcases open_slice Tryz.underlying33 h with⟨hcs,_⟩|⟨a,len,cap,m,n',D,Pl,hcs,_,hl,hm,hmm,rfl,hx⟩
 ·simp at hcs
  subst hcs
  have h0:xs.length=0:=by simp at ev;omega
  have:xs=[]:=List.length_eq_zero_iff.1 h0
  subst this
  exact⟨fh3 _,fun s hs=>by cases hs⟩
 ·simp at hcs
  subst hcs
  have h0:len=xs.length:=by simp at ev;omega
  have hlm:len≤m:=by rw[hmm];split<;>omega
  have hb:=dd8 ((List.range len).map D) ((List.range (m-len)).map fun j=>D (len+j))
  have hn:=dD9 ((List.range len).map D)
  rw[fg5,List.length_range]at hn
  refine⟨by show _≤Rows.uptoBulk (DataW.slice _ _);omega,fun s hsm=> ?_⟩
  obtain⟨k,hk⟩:=List.mem_iff_getElem?.1 hsm
  have hkl:k<xs.length:=(List.getElem?_eq_some_iff.1 hk).1
  obtain⟨b,o,c,e,_,p⟩:=hs.str (show At xs k s from hk)
  have hp:=p W (aJ9 W)
  obtain⟨cs,hcs,ht⟩:=hx k (by omega)
  obtain⟨_,hl1,hg1⟩:=World.cells?_some hcs
  rw[hc]at hl1 hg1
  have hg:=hg1 0 (by omega)
  simp at e
  obtain⟨ea,_,_⟩:=e
  subst ea
  rw[Addr.add_lit,Addr.add_lit]at hg
  obtain⟨s',rfl,ey,_⟩:=DataW.trod_string Tryz.underlying9 ht
  have dW7:W.cell? ⟨b,o+k,none⟩=some (.string s'):=by simpa [hc]using hg
  have hss:s'=s:=by rw[hp]at dW7;simpa using dW7.symm
  subst hss
  have hD:D k= .lit (.string s'.data.toList):=(Prod.mk.inj ey).1
  have h1:Rows.uptoBulk (D k)≤Rows.uptoBulkAll ((List.range len).map D):=ce6 (List.mem_map.2 ⟨k,List.mem_range.2 (by omega),rfl⟩)
  rw[hD]at h1
  have h2:s'.data.toList.length≤Rows.uptoBulk (DataW.lit (H:=H) (.string s'.data.toList)):=by simp[Rows.uptoBulk]
  have h3:s'.size=s'.data.toList.length:=rfl
  show _≤Rows.uptoBulk (DataW.slice _ _)
  omega
end
end
section
open Go.RowKit Go.ChangeShapes Go.WideShapes Go.Deep Go.Joins
section
variable {H:Type} {enc:TypeId × Value→H} {W:World} {sp:Nat→Bool} {hd:Bool}
theorem cO4:Tryz.prog.cellsOf 3=1:=by kernel_rfl
theorem cO5:Tryz.prog.cellsOf 9=1:=by kernel_rfl
theorem dI6 {α:Type} {cs:Array α} (h:cs.size=2):∃a b,cs= #[a,b]:=by
 obtain⟨l⟩:=cs
 match l,h with
 |[a,b],_=>exact⟨a,b,rfl⟩
theorem co0 {r:Reach} {b0:Nat} {v:Value} {d:DataW H} {p:List MemPlace} (hv:Value.okWide Tryz.prog W r b0 78 v) (h:DataW.Trod enc Tryz.prog W 0 sp hd 78 v d p) (hw:∀k∈d.weights Tryz.prog 78,k≤reachBytes):
 ∃(q:ByteArray) (n:Int),v= .agg #[.string q,.int .i64 n]∧q.size≤140737488355328∧K8 n:=by
 obtain⟨cs,rfl,hsz⟩:=okWide_struct Tryz.underlying78 hv
 obtain⟨c0,c1,rfl⟩:=dI6 (hsz.trans (by kernel_rfl))
 obtain⟨fuel,hf⟩:=h
 obtain⟨y0,y1,n,ex,_,h0,h1⟩:=trod_struct2 Tryz.underlying78 hf
 simp only[Value.cells,cO5,cO4,ff6,ff5,List.take_succ_cons,List.take_zero]at h0 h1
 obtain⟨rfl,-⟩:=Prod.mk.inj ex
 simp only[DataW.weights,Tryz.underlying78,List.map_cons,List.map_nil,DataW.weightsEach,List.mem_append,List.append_nil]at hw
 obtain⟨q,hq,hqz⟩:=cG0 _ _ _ h0 (fun k hk=>hw k (by simp[hk]))
 obtain⟨k1,e1,_,w1⟩:=DataW.trod_int Tryz.underlying3 h1
 simp at hq e1
 subst hq;subst e1
 exact⟨q,k1,rfl,hqz,ah7 w1⟩
theorem dW9 (n:Nat) (cs:List Value) (y:DataW H × List MemPlace) (h:DataW.trod enc Tryz.prog W 0 sp hd n 35 cs=some y) (hw:∀k∈y.1.weights Tryz.prog 35,k≤reachBytes):
 ∃(q:ByteArray) (k:Int),cs=[.int .i64 k,.string q]∧q.size≤140737488355328∧K8 k:=by
 obtain⟨y0,y1,m,ex,hl,h0,h1⟩:=trod_struct2 Tryz.underlying35 h
 match cs,hl.trans (by kernel_rfl:_=2)with
 |[c0,c1],_=>
  simp only[cO4,cO5,ff6,ff5,List.take_succ_cons,List.take_zero]at h0 h1
  subst ex
  simp only[DataW.weights,Tryz.underlying35,List.map_cons,List.map_nil,DataW.weightsEach,List.mem_append,List.append_nil]at hw
  obtain⟨k0,e0,_,w0⟩:=DataW.trod_int Tryz.underlying3 h0
  obtain⟨q,hq,hqz⟩:=cG0 _ _ _ h1 (fun k hk=>hw k (by simp[hk]))
  simp at hq e0
  subst hq;subst e0
  exact⟨q,k0,rfl,hqz,ah7 w0⟩
theorem de2 {r:Reach} {b0:Nat} {v:Value} {d:DataW H} {p:List MemPlace} (hv:Value.okWide Tryz.prog W r b0 35 v) (h:DataW.Trod enc Tryz.prog W 0 sp hd 35 v d p) (hw:∀k∈d.weights Tryz.prog 35,k≤reachBytes):
 ∃(q:ByteArray) (n:Int),v= .agg #[.int .i64 n,.string q]∧q.size≤140737488355328∧K8 n:=by
 obtain⟨cs,rfl,hsz⟩:=okWide_struct Tryz.underlying35 hv
 obtain⟨c0,c1,rfl⟩:=dI6 (hsz.trans (by kernel_rfl))
 obtain⟨fuel,hf⟩:=h
 obtain⟨q,k,e,h1,h2⟩:=dW9 _ _ _ hf hw
 simp[Value.cells]at e
 obtain⟨rfl,rfl⟩:=e
 exact⟨q,k,rfl,h1,h2⟩
end
end
section
open Go.RowKit
attribute [local go_sem] j4.drew j4.alloc j4.drewN WB.holds Oper.semAt_some Q9 O1 J7
theorem cH0 (vm vb vt um uo ua lv mv:Value) (t:D5) (l m:List ByteArray) (v:F6 t=true) (h1:l.length≤24) (h2:m.length≤24) (z1:∀s∈l,s.size≤900) (z2:∀s∈m,s.size≤900) (hs:ba7 t l m=true)
 (H:j5) (dr:Doors H) (w:World) (hw:j4 H w) (ht:Twn H vm vb vt um uo ua t) (hl:Sl H lv l) (hm:Sl H mv m):
 Calls Tryz.prog 22 #[ah0 vm vb vt um uo ua t,lv,mv] w (I1 w (.bool true)):=by
 unfold ba7 at hs
 rw[fh9]at hs
 have e1:=of_decide_eq_true hs.1
 have e2:=of_decide_eq_true hs.2
 have cU:=fun(H':j5) (W:World) (hW:j4 H' W) (hle:D8 H H')=>aD1 vm vb vt um uo ua lv t l v h1 z1 H' (dr.mono hle) W hW (ht.mono hle) (hl.mono hle)
 have cV:=fun(H':j5) (W:World) (hW:j4 H' W) (hle:D8 H H')=>aD1 vm vb vt um uo ua mv t m v h2 z2 H' (dr.mono hle) W hW (ht.mono hle) (hm.mono hle)
 have cS:∀(va vb:Value) (xs:List ByteArray) (H':j5) (W:World),j4 H' W→Sl H' va xs→Sl H' vb xs→Calls Tryz.prog 25 #[va,vb] W (I1 W (.bool true)):=fun va vb xs H' W hW h1 h2=>by simpa using bK5 va vb xs xs H' W hW h1 h2
 rw[←e1,←e2]at cV
 clear hs e1 e2 z1 z2 h1 h2 v
 generalize V5 t l=T at*
 generalize O0 t l=K at*
 generalize Y1 t l=A at*
 generalize Y1 t m=A2 at*
 obtain⟨al,cl,rfl,_,_⟩:=hl.form
 obtain⟨am,cm,rfl,_,_⟩:=hm.form
 replace cU:=fe6 cU
 replace cV:=fe6 cV
 replace cS:=fe6 cS
 clear hl hm ht dr
 go_enter Tryz.func22,Tryz.ntmps22
 go_upto_region 2 with(first|(refine af8 rfl _ rfl (Ext.refl hw) ?_;intro B w1 H1 hle hx hB hBw;obtain⟨hc0,hc1,hc2,hc3,hc4,O8,hc6,O9⟩:=I5 hB;clear hB hw;have hw1:=hx.holds)|(go_at_call 23;go_must (refine(cU.out _ _ hw1 hle).mono ?_);rintro e w3 ⟨_,H3,rfl,y3,va,vt',vk,rfl,sAa,⟨xm,xb,xt,xp,xq,xr,rfl,tw3⟩,sKa⟩;obtain⟨pAa,qAa,rfl,_,_⟩:=sAa.form;obtain⟨pKa,qKa,rfl,_,_⟩:=sKa.form;obtain⟨p0,pq0,rfl,_,_⟩:=tw3.h.m.form;obtain⟨p1,pq1,rfl,_,_⟩:=tw3.h.b.form;obtain⟨p2,pq2,rfl,_,_⟩:=tw3.h.t.form;obtain⟨p3,pq3,rfl,_,_⟩:=tw3.s.m.form;obtain⟨p4,pq4,rfl,_,_⟩:=tw3.s.o.form;obtain⟨p5,pq5,rfl,_,_⟩:=tw3.s.a.form))
 have x3:=hx.trans y3
 have hn_:H3 (World.heap w3).size=none:=(x3).holds.D6 (fh0 _)
 have x4:=((x3).alloc (.cells #[.slice p0 T.h.ms.length pq0,.slice p1 T.h.bs.length pq1,.slice p2 T.h.ts.length pq2,.int .i64 T.h.ch,.slice p3 T.s.mo.length pq3,.slice p4 T.s.wo.length pq4,.slice p5 T.s.wa.length pq5,.int .i64 T.s.fr] 32)).freeze (x3).below.size (heap_alloc_new w3 _)
 have l4:=j5.L9 hn_ (.cells #[.slice p0 T.h.ms.length pq0,.slice p1 T.h.bs.length pq1,.slice p2 T.h.ts.length pq2,.int .i64 T.h.ch,.slice p3 T.s.mo.length pq3,.slice p4 T.s.wo.length pq4,.slice p5 T.s.wa.length pq5,.int .i64 T.s.fr] 32 (0,0))
 have eb6:=j5.G7 H3 (World.heap w3).size (.cells #[.slice p0 T.h.ms.length pq0,.slice p1 T.h.bs.length pq1,.slice p2 T.h.ts.length pq2,.int .i64 T.h.ch,.slice p3 T.s.mo.length pq3,.slice p4 T.s.wo.length pq4,.slice p5 T.s.wa.length pq5,.int .i64 T.s.fr] 32 (0,0))
 clear hn_
 generalize j5.put H3 (World.heap w3).size (.cells #[.slice p0 T.h.ms.length pq0,.slice p1 T.h.bs.length pq1,.slice p2 T.h.ts.length pq2,.int .i64 T.h.ch,.slice p3 T.s.mo.length pq3,.slice p4 T.s.wo.length pq4,.slice p5 T.s.wa.length pq5,.int .i64 T.s.fr] 32 (0,0))=H4 at*
 generalize World.alloc w3 (.cells #[.slice p0 T.h.ms.length pq0,.slice p1 T.h.bs.length pq1,.slice p2 T.h.ts.length pq2,.int .i64 T.h.ch,.slice p3 T.s.mo.length pq3,.slice p4 T.s.wo.length pq4,.slice p5 T.s.wa.length pq5,.int .i64 T.s.fr] 32)=w4 at*
 generalize(World.heap w3).size=C at*
 have l14:D8 H1 H4:=(y3.le hw1).trans l4
 have bd9:=hle.trans l14
 have twA:=tw3.mono l4
 replace sKa:=sKa.mono l4
 obtain⟨d0,d1,d2,d3,d4,d5,d6,d7⟩:=I5 (t:=T) eb6
 replace hc0:=lift l14 hc0
 replace hc1:=lift l14 hc1
 replace hc2:=lift l14 hc2
 replace hc3:=lift l14 hc3
 replace hc4:=lift l14 hc4
 replace O8:=lift l14 O8
 replace hc6:=lift l14 hc6
 replace O9:=lift l14 O9
 have hw4:=x4.holds
 clear x3 y3 hw1 hx tw3 sAa eb6 l14 l4 cU
 go_upto_region 3 with(go_at_call 23;go_must (refine(cV.out _ _ hw4 bd9).mono ?_);rintro e w6 ⟨_,H6,rfl,y6,va,vt',vk,rfl,sAb,⟨xm,xb,xt,xp,xq,xr,rfl,tw6⟩,sKb⟩;obtain⟨pAb,qAb,rfl,_,_⟩:=sAb.form;obtain⟨pKb,qKb,rfl,_,_⟩:=sKb.form;obtain⟨r0,rq0,rfl,_,_⟩:=tw6.h.m.form;obtain⟨r1,rq1,rfl,_,_⟩:=tw6.h.b.form;obtain⟨r2,rq2,rfl,_,_⟩:=tw6.h.t.form;obtain⟨r3,rq3,rfl,_,_⟩:=tw6.s.m.form;obtain⟨r4,rq4,rfl,_,_⟩:=tw6.s.o.form;obtain⟨r5,rq5,rfl,_,_⟩:=tw6.s.a.form)
 have x6:=x4.trans y6
 have hn_:H6 (World.heap w6).size=none:=(x6).holds.D6 (fh0 _)
 have x7:=((x6).alloc (.cells #[.slice r0 T.h.ms.length rq0,.slice r1 T.h.bs.length rq1,.slice r2 T.h.ts.length rq2,.int .i64 T.h.ch,.slice r3 T.s.mo.length rq3,.slice r4 T.s.wo.length rq4,.slice r5 T.s.wa.length rq5,.int .i64 T.s.fr] 32)).freeze (x6).below.size (heap_alloc_new w6 _)
 have l7:=j5.L9 hn_ (.cells #[.slice r0 T.h.ms.length rq0,.slice r1 T.h.bs.length rq1,.slice r2 T.h.ts.length rq2,.int .i64 T.h.ch,.slice r3 T.s.mo.length rq3,.slice r4 T.s.wo.length rq4,.slice r5 T.s.wa.length rq5,.int .i64 T.s.fr] 32 (0,0))
 have eb7:=j5.G7 H6 (World.heap w6).size (.cells #[.slice r0 T.h.ms.length rq0,.slice r1 T.h.bs.length rq1,.slice r2 T.h.ts.length rq2,.int .i64 T.h.ch,.slice r3 T.s.mo.length rq3,.slice r4 T.s.wo.length rq4,.slice r5 T.s.wa.length rq5,.int .i64 T.s.fr] 32 (0,0))
 clear hn_
 generalize j5.put H6 (World.heap w6).size (.cells #[.slice r0 T.h.ms.length rq0,.slice r1 T.h.bs.length rq1,.slice r2 T.h.ts.length rq2,.int .i64 T.h.ch,.slice r3 T.s.mo.length rq3,.slice r4 T.s.wo.length rq4,.slice r5 T.s.wa.length rq5,.int .i64 T.s.fr] 32 (0,0))=H7 at*
 generalize World.alloc w6 (.cells #[.slice r0 T.h.ms.length rq0,.slice r1 T.h.bs.length rq1,.slice r2 T.h.ts.length rq2,.int .i64 T.h.ch,.slice r3 T.s.mo.length rq3,.slice r4 T.s.wo.length rq4,.slice r5 T.s.wa.length rq5,.int .i64 T.s.fr] 32)=w7 at*
 generalize(World.heap w6).size=D at*
 have l47:D8 H4 H7:=(y6.le hw4).trans l7
 have twB:=tw6.mono l7
 replace twA:=twA.mono l47
 replace sKa:=sKa.mono l47
 replace sKb:=sKb.mono l7
 obtain⟨g0,g1,g2,g3,g4,g5,g6,g7⟩:=I5 (t:=T) eb7
 replace d0:=lift l47 d0
 replace d1:=lift l47 d1
 replace d2:=lift l47 d2
 replace d3:=lift l47 d3
 replace d4:=lift l47 d4
 replace d5:=lift l47 d5
 replace d6:=lift l47 d6
 replace d7:=lift l47 d7
 have cA:=fun(W:World) (hW:j4 H7 W)=>aU4 _ _ _ _ _ _ _ _ _ _ _ _ T H7 W hW twA twB
 replace cA:=fe6 cA
 have hw7:=x7.holds
 clear x6 y6 x4 hw4 tw6 eb7 l47 l7 cV hc0 hc1 hc2 hc3 hc4 O8 hc6 O9 twA twB sAb
 go_wp2_with(first|(go_at_call 24;go_must (refine(cA.out _ hw7).mono ?_);rintro e w8 ⟨rfl,hb8⟩;have x8:=x7.step (hb8.mono x7.below.size) (hw7.below hb8);have hw8:=x8.holds)|(go_at_call 25;go_must (refine(cS.out _ _ K _ _ hw8 sKa sKb).mono ?_);rintro e w9 ⟨rfl,hb9⟩;have x9:=x8.step (hb9.mono x8.below.size) (hw8.below hb9)))
 go_ret
 exact⟨rfl,x9.below⟩
theorem cr3 (lv:Value) (l:List ByteArray) (n:Int) (hnI:K8 n) (hsz:∀s∈l,s.size≤1100000) (H:j5) (w:World) (hw:j4 H w) (hl:Sl H lv l):
 Calls Tryz.prog 15 #[lv,.int .i64 n] w (I1 w (.bool (at5 (l.map A8) n))):=by
 obtain⟨al,cl,rfl,hl1,hl2⟩:=hl.form
 obtain⟨V,hV⟩:∃V,Hid (at5 (l.map A8) n=V):=⟨_,rfl⟩
 rw[hV.out]
 cases hwi:within n 0 ((l.length:Int)-1)
 ·have hv:V=false:=by
   rw[←hV.out]
   unfold at5
   unfold within at hwi
   simp at hwi ⊢
   intro h1 h2
   omega
  subst hv
  clear hV
  go_enter Tryz.func15,Tryz.ntmps15
  go_wp2_with(first|((go_at_call 26;refine(aD4 _ _ _ _).mono ?_;rintro e w5 ⟨rfl,rfl⟩;rw[hwi])))
  go_ret
  exact⟨rfl,Below.refl _ _⟩
 ·obtain⟨n0,n1⟩:0≤n∧n≤(l.length:Int)-1:=by unfold within at hwi;simpa using hwi
  obtain⟨N,rfl⟩:∃N:Nat,n=(N:Int):=⟨n.toNat,by omega⟩
  have hN:N<l.length:=by omega
  obtain⟨z,hz⟩:=At.mk hN
  have hk:=fun(W:World) (hW:j4 H W)=>aI0 z (hsz z hz.mem) H W hW
  have hv:V=decide ((A8 z).kind=1):=by
   rw[←hV.out]
   unfold at5
   rw[fh8,bM2 hN,ff3,show l[N]? =some z from hz,decide_eq_true (show(0:Int)≤(N:Int)by omega),decide_eq_true (show(N:Int)<((l.map A8).length:Int)by rw[fg5];omega)]
   rfl
  obtain⟨b1,o1,c1,hez,hszz,p1⟩:=hl.str hz
  cases hez
  have hN0:(0:Int)≤(N:Int):=by omega
  have hN1:(N:Int)<(l.length:Int):=by omega
  have hN2:(N:Int)≤(l.length:Int)-1:=by omega
  generalize(A8 z).kind=K at*
  replace hk:=fe6 hk
  replace hv:=fe6 hv
  clear hV hz n0 n1 hnI
  by_cases h1:K=1
  ·subst h1
   go_enter Tryz.func15,Tryz.ntmps15
   go_wp2_with(first|((go_at_call 26;refine(aD4 _ _ _ _).mono ?_;rintro e w5 ⟨rfl,rfl⟩;rw[hwi]))|((go_at_call 16;go_must (refine(hk.out _ hw).mono ?_);rintro e w4 ⟨rfl,hb4⟩)))
   go_ret
   exact⟨M0 (by rw[hv.out];rfl),hb4⟩
  ·go_enter Tryz.func15,Tryz.ntmps15
   go_wp2_with(first|((go_at_call 26;refine(aD4 _ _ _ _).mono ?_;rintro e w5 ⟨rfl,rfl⟩;rw[hwi]))|((go_at_call 16;go_must (refine(hk.out _ hw).mono ?_);rintro e w4 ⟨rfl,hb4⟩)))
   go_ret
   exact⟨M0 (by rw[hv.out];simp[h1]),hb4⟩
end
section
open Go.RowKit
attribute [local go_sem] j4.drew j4.alloc j4.drewN WB.holds Oper.semAt_some
theorem cb8 (lv:Value) (l:List ByteArray) (n:Nat) (s:ByteArray) (hn:n<l.length) (hl:l.length≤2000000) (hs:s.size≤2000000) (H:j5) (w:World) (hw:j4 H w) (h:Sl H lv l):
 Calls Tryz.prog 21 #[lv,.int .i64 (n:Int),.string s] w (Post w H fun u H'=>Sl H' u (l.set n s)):=by
 obtain⟨a,c,rfl,_,_⟩:=h.form
 have aX9:Hid ((([]:List ByteArray).length+l.length)*Enc.M4 ByteArray≤140737488355328):=by show _≤_;simp only[Enc.M4,fg1];omega
 have aH8:Hid (([]:List ByteArray).length+l.length≤9223372036854775807):=by show _≤_;simp only[fg1];omega
 have hn0:(0:Int)≤(n:Int):=by omega
 have hn1:(n:Int)<(l.length:Int):=by omega
 go_enter Tryz.func21,Tryz.ntmps21
 go_upto_region 2 with(at_builtin;go_must (refine aj2 (w0:=w) (H0:=H) bi0 rfl _ _ rfl ((Ext.refl hw).alloc _) rfl (Own.emptyAt (heap_alloc_new _ _) (fh0 _) (hw.D6 (fh0 _))) rfl h aX9.out aH8.out ?_);intro v3 w3 o3 x3 hw3 g3;rw[ff9]at o3)
 obtain⟨g,c3,rfl,hbg,hgn,hgl,⟨u0,hu0⟩,hfz,hset⟩:=Own.y8 rfl o3 hn
 have o4:=hset s (.string s) ⟨rfl,by omega⟩
 have x4:=x3.setCell (a:=⟨g,n,none⟩) hbg hgn (.string s)
 obtain⟨H4,x5,l5,s5,_⟩:=o4.close x4
 clear hset o3 o4 x4 x3 g3 aX9 aH8
 go_wp2_with fail
 go_ret
 exact⟨_,H4,rfl,x5,s5⟩
def eA5 (xs ys:List ByteArray):Nat→List ByteArray
 |0=>[]
 |1=>xs
 |_=>xs++ys
theorem bG7 (va vb:Value) (xs ys:List ByteArray) (hx:xs.length≤2000000) (hy:ys.length≤2000000) (H:j5) (w:World) (hw:j4 H w) (h1:Sl H va xs) (h2:Sl H vb ys) (b:Nat)
 (d0:∀W,j4 H W→W.cell? ⟨b,0,none⟩=some va) (d1:∀W,j4 H W→W.cell? ⟨b,1,none⟩=some vb):
 Calls Tryz.prog 19 #[.slice (some ⟨b,0,none⟩) 2 2] w (Post w H fun u H'=>Sl H' u (xs++ys)):=by
 obtain⟨a1,c1,rfl,_,_⟩:=h1.form
 obtain⟨a2,c2,rfl,_,_⟩:=h2.form
 have aX9:Hid ((([]:List ByteArray).length+xs.length)*Enc.M4 ByteArray≤140737488355328):=by show _≤_;simp only[Enc.M4,fg1];omega
 have aH8:Hid (([]:List ByteArray).length+xs.length≤9223372036854775807):=by show _≤_;simp only[fg1];omega
 have eA6:Hid ((xs.length+ys.length)*Enc.M4 ByteArray≤140737488355328):=by show _≤_;simp only[Enc.M4];omega
 have eA7:Hid (xs.length+ys.length≤9223372036854775807):=by show _≤_;omega
 replace hx:=fe6 hx
 replace hy:=fe6 hy
 go_enter Tryz.func19,Tryz.ntmps19
 go_wp2_with fail
 go_loopw [3,4] (fun v i wr=>∃(k:Nat),k≤2∧i= .int .i64 (k:Int)∧Own H w.heap.size wr 9 v (eA5 xs ys k)∧Ext w H wr H) (fun v i _=>2-(intOf i).toNat)
 case atStart=>exact⟨0,by omega,rfl,Own.nil _ _ _ _,Ext.refl hw⟩
 case round=>
  obtain⟨k,hk,rfl,o,x⟩:=hrel
  have hwr:=x.holds
  match k,hk,o with
  |0,_,o=>
   replace o:Own H w.heap.size wr 9 _ ([]:List ByteArray):=o
   go_wp2_with(at_builtin;go_must (refine aj2 (w0:=w) (H0:=H) bi0 rfl _ _ rfl x rfl o rfl h1 aX9.out aH8.out ?_);intro v3 w3 o3 x3 hw3 g3;rw[ff9]at o3)
   go_roundw
   case rel=>exact⟨1,by omega,rfl,o3,x3⟩
   case measure=>simp[intOf]
  |1,_,o=>
   replace o:Own H w.heap.size wr 9 _ xs:=o
   go_wp2_with(at_builtin;go_must (refine aj2 (w0:=w) (H0:=H) bi0 rfl _ _ rfl x rfl o rfl h2 eA6.out eA7.out ?_);intro v3 w3 o3 x3 hw3 g3)
   go_roundw
   case rel=>exact⟨2,by omega,rfl,o3,x3⟩
   case measure=>simp[intOf]
  |2,_,o=>
   replace o:Own H w.heap.size wr 9 _ (xs++ys):=o
   obtain⟨H4,x5,l5,s5,_⟩:=o.close x
   go_wp2_with fail
   go_ret
   exact⟨_,H4,rfl,x5,s5⟩
end
section
open Go.RowKit
theorem bn8 {w0 w:World} {H0 H:j5} (hx:Ext w0 H0 w H) (a b:Value) (T:TypeId):
 ∃H2,D8 H H2∧Ext w0 H0 (w.alloc (.cells #[a,b] T)) H2∧(∀W,j4 H2 W→W.cell? ⟨w.heap.size,0,none⟩=some a)∧∀W,j4 H2 W→W.cell? ⟨w.heap.size,1,none⟩=some b:=by
 have hn:=hx.holds.D6 (fh0 w.heap.size)
 have hp:=j5.G7 H w.heap.size (.cells #[a,b] T (0,0))
 exact⟨_,j5.L9 hn _,(hx.alloc _).freeze hx.below.size (heap_alloc_new w _),fun W hW=>(D7 hp hW 0).trans rfl,fun W hW=>(D7 hp hW 1).trans rfl⟩
end
section
open Go.RowKit
attribute [local go_sem] j4.drew j4.alloc j4.drewN WB.holds Oper.semAt_some
theorem cr0 {n:Int} (h0:0≤n) (h1:n≤9999999):(G6 n).size≤7:=by
 obtain⟨k,rfl⟩:=Int.eq_ofNat_of_zero_le h0
 show(Lib.itoa (k:Int)).length≤7
 rw[ay2];exact aI6 _ 6 (by omega)
theorem by8 (n:Int) (e:ByteArray) (he:e.size≤900) (h1:0≤n) (h2:n≤9999999) (w:World):
 Calls Tryz.prog 20 #[.int .i64 n,.string e] w (I1 w (.string (ch3 n e))):=by
 have ht:=fe6 (bL9 n (by omega) (by omega))
 have hz:(G6 n).size≤7:=cr0 h1 h2
 have hE:Hid ((⟨#[108,105,110,101,32]⟩:ByteArray)++G6 n++⟨#[32,105,115,32]⟩++e=ch3 n e):=dw9 n e
 generalize G6 n=T at*
 go_enter Tryz.func20,Tryz.ntmps20
 go_wp2_with(first|(go_at_call 41;refine(ht.out _).mono ?_;rintro e w4 ⟨rfl,hb4⟩))
 go_ret
 exact⟨by rw[←hE.out];rfl,hb4⟩
theorem el7 {w0 w:World} {H0 H:j5} (hx:Ext w0 H0 w H) {a:ByteArray} (ha:∀x∈[a],x.size≤1000000):
 ∃H2,D8 H H2∧Ext w0 H0 (w.alloc (.cells #[.string a] 9)) H2∧Sl H2 (.slice (some ⟨w.heap.size,0,none⟩) 1 1) [a]:=
 aN5 hx [a] ha (by simp)
end
section
open Go.RowKit
attribute [local go_sem] j4.drew j4.alloc j4.drewN WB.holds Oper.semAt_some Q9 O1 J7
theorem by9 {n:Int} {e:ByteArray} (h1:0≤n) (h2:n≤9999999):(ch3 n e).size≤16+e.size:=by
 rw[←dw9,ByteArray.size_append,ByteArray.size_append,ByteArray.size_append]
 have:=cr0 h1 h2
 show 5+_+4+_≤_
 omega
theorem bM3 (vm vb vt um uo ua lv:Value) (t:D5) (l:List ByteArray) (a:ByteArray) (n:Int) (H:j5) (dr:Doors H) (w:World) (hw:j4 H w) (ht:Twn H vm vb vt um uo ua t) (hl:Sl H lv l) (hza:a.size≤140737488355328) (hnI:K8 n)
 (hll:l.length≤1100000) (hsz:∀s∈l,s.size≤1100000):
 Calls Tryz.prog 3 #[ah0 vm vb vt um uo ua t,lv,.agg #[.int .i64 n,.string a]] w (I1 w (.bool true)):=by
 clear hza
 have cW:=fun(H':j5) (W:World) (hW:j4 H' W) (hle:D8 H H')=>aO6 H' (dr.mono hle) W hW
 replace cW:=fe6 cW
 have cI:=fun(H':j5) (W:World) (hW:j4 H' W) (hle:D8 H H')=>cr3 lv l n hnI hsz H' W hW (hl.mono hle)
 have cY:=fun(H':j5) (W:World) (hW:j4 H' W) (hle:D8 H H')=>aA3 vm vb vt um uo ua lv t l H' W hW (ht.mono hle) (hl.mono hle)
 obtain⟨al,cl,rfl,hl1,hl2⟩:=hl.form
 by_cases hE:(40:Int)<(a.size:Int)∨(¬(40:Int)<(a.size:Int)∧(at5 (l.map A8) n=false∨(at5 (l.map A8) n=true∧((A8 a).kind≠1∨((A8 a).kind=1∧((24:Int)≤(l.length:Int)∨(¬(24:Int)≤(l.length:Int)∧aF8 t l=false)))))))
 ·have cKa:=fun(hz:¬(40:Int)<(a.size:Int)) (H':j5) (W:World) (hW:j4 H' W)=>aI0 a (by omega) H' W hW
  generalize(A8 a).kind=Ka at*
  generalize at5 (l.map A8) n=bI at*
  rcases hE with za|⟨za,hI|⟨hI,ka|⟨ka,z24|⟨z24,hr⟩⟩⟩⟩
  all_goals
   (try subst hI)
   (try subst ka)
   (try rw[hr]at cY)
   replace cKa:=fe6 cKa
   replace cI:=fe6 cI
   replace cY:=fe6 cY
   clear ht dr hsz hll
   (try clear hr)
   go_enter Tryz.func3,Tryz.ntmps3
   go_upto_region 1 with(first|(have hgd:=hx;refine af8 rfl _ rfl hx ?_;intro C w2 H2 hle2 hx2 hC hCw;have g0:∀W,j4 H2 W→W.cell? ⟨C,0,none⟩=some (.int .i64 n):=fun W hW=>D7 hC hW 0;have g1:∀W,j4 H2 W→W.cell? ⟨C,1,none⟩=some (.string a):=fun W hW=>D7 hC hW 1;replace hc0:=lift hle2 hc0;replace hc1:=lift hle2 hc1;replace hc2:=lift hle2 hc2;replace hc3:=lift hle2 hc3;replace hc4:=lift hle2 hc4;replace O8:=lift hle2 O8;replace hc6:=lift hle2 hc6;replace O9:=lift hle2 O9;replace hle:=hle.trans hle2;clear hC hx hw1 hle2;have hw2:=hx2.holds)|(refine af8 rfl _ rfl (Ext.refl hw) ?_;intro B w1 H1 hle hx hB hBw;obtain⟨hc0,hc1,hc2,hc3,hc4,O8,hc6,O9⟩:=I5 hB;clear hB hw;have hw1:=hx.holds))
   go_wp2_with(first|((go_at_call 15;go_must (refine(cI.out _ _ hw2 hle).mono ?_);rintro e w4 ⟨rfl,hb4⟩;have x4:=hx2.step (hb4.mono hx2.below.size) (hw2.below hb4);have hw4:=x4.holds))|((have hgd:=hw4;clear hgd;go_at_call 16;go_must (refine(cKa.out za _ _ hw4).mono ?_);rintro e w5 ⟨rfl,hb5⟩;have x5:=x4.step (hb5.mono x4.below.size) (hw4.below hb5);have hw5:=x5.holds;clear hw4))|((go_at_call 17;go_must (refine(cY.out _ _ x5.holds hle).mono ?_);rintro e w6 ⟨rfl,hb6⟩;have x6:=x5.step (hb6.mono x5.below.size) (x5.holds.below hb6);have hw6:=x6.holds))|((go_at_call 18;first|(refine(cW.out _ _ x6.holds hle).mono ?_;rintro e wz ⟨rfl,hbz⟩;have xz:=x6.step (hbz.mono x6.below.size) (x6.holds.below hbz))|(refine(cW.out _ _ x5.holds hle).mono ?_;rintro e wz ⟨rfl,hbz⟩;have xz:=x5.step (hbz.mono x5.below.size) (x5.holds.below hbz))|(refine(cW.out _ _ x4.holds hle).mono ?_;rintro e wz ⟨rfl,hbz⟩;have xz:=x4.step (hbz.mono x4.below.size) (x4.holds.below hbz))|(refine(cW.out _ _ hx2.holds hle).mono ?_;rintro e wz ⟨rfl,hbz⟩;have xz:=hx2.step (hbz.mono hx2.below.size) (hx2.holds.below hbz)))))
   go_ret
   exact⟨rfl,xz.below⟩
 have za:¬(40:Int)<(a.size:Int):=fun h=>hE (.inl h)
 have hI:at5 (l.map A8) n=true:=by
  cases h:at5 (l.map A8) n
  ·exact absurd (.inr ⟨za,.inl h⟩) hE
  ·rfl
 have ka:(A8 a).kind=1:=Decidable.byContradiction fun h=>hE (.inr ⟨za,.inr ⟨hI,.inl h⟩⟩)
 have z24:¬(24:Int)≤(l.length:Int):=fun h=>hE (.inr ⟨za,.inr ⟨hI,.inr ⟨ka,.inl h⟩⟩⟩)
 have hr:aF8 t l=true:=by
  cases h:aF8 t l
  ·exact absurd (.inr ⟨za,.inr ⟨hI,.inr ⟨ka,.inr ⟨z24,h⟩⟩⟩⟩) hE
  ·rfl
 have cKa:=fun(H':j5) (W:World) (hW:j4 H' W)=>aI0 a (by omega) H' W hW
 rw[hI]at cI
 rw[ka]at cKa
 rw[hr]at cY
 have R:=aL3.1 hr
 obtain⟨n0,n1,nk⟩:=ce3.1 hI
 rw[fg5]at n1
 obtain⟨N,rfl⟩:∃N:Nat,n=(N:Int):=⟨n.toNat,by omega⟩
 have hNl:N<l.length:=by omega
 obtain⟨z,hz⟩:=At.mk hNl
 obtain⟨b1,o1,c1,hez,_,p1⟩:=hl.str hz
 cases hez
 have hgz:l.getD N ⟨#[]⟩=z:=by rw[ff3,show l[N]? =some z from hz];rfl
 have hzs:z.size≤60:=R.z z hz.mem
 have hs9:∀s∈l,s.size≤900:=fun s hs=>by have:=R.z s hs;omega
 have law:=fun(hc:∀s∈l,(A8 s).kind≠5∧(A8 s).kind≠6)=>cr2 R.v (by omega) hI ka hc
 rw[fh8,hgz]at law
 have H8:=by8 (N:Int) a (by omega) n0 (by omega)
 have aa2:=by8 (N:Int) z (by omega) n0 (by omega)
 have ab1:=by8 (N:Int) au8 (by decide) n0 (by omega)
 have z1:(ch3 (N:Int) a).size≤900:=fh1 (by9 n0 (by omega)) (by omega)
 have z2:(ch3 (N:Int) z).size≤900:=fh1 (by9 n0 (by omega)) (by omega)
 have z3:(ch3 (N:Int) au8).size≤900:=fh1 (by9 n0 (by omega)) (by decide)
 have cK9:=fun(s:ByteArray) (hs:s∈l) (H':j5) (W:World) (hW:j4 H' W)=>aI0 s (by have:=hs9 s hs;omega) H' W hW
 have cWa:=fun(H':j5) (W:World) (hW:j4 H' W) (hle:D8 H H')=>cb8 (.slice (some ⟨b1,o1,none⟩) l.length cl) l N a hNl (by omega) (by omega) H' W hW (hl.mono hle)
 have cWe:=fun(H':j5) (W:World) (hW:j4 H' W) (hle:D8 H H')=>cb8 (.slice (some ⟨b1,o1,none⟩) l.length cl) l N ⟨#[]⟩ hNl (by omega) (by decide) H' W hW (hl.mono hle)
 have cJ:=fun(q:ByteArray) (vb:Value) (H':j5) (W:World) (hW:j4 H' W) (hle:D8 H H') (h2:Sl H' vb [q]) (b:Nat) (d0:∀W,j4 H' W→W.cell? ⟨b,0,none⟩=some (.slice (some ⟨b1,o1,none⟩) l.length cl)) (d1:∀W,j4 H' W→W.cell? ⟨b,1,none⟩=some vb)=>bG7 (.slice (some ⟨b1,o1,none⟩) l.length cl) vb l [q] (by omega) (by simp) H' W hW (hl.mono hle) h2 b d0 d1
 have cJ1:=cJ (ch3 (N:Int) a)
 have cJ2:=cJ (ch3 (N:Int) z)
 have cJ3:=cJ (ch3 (N:Int) au8)
 have cYY:=fun(p:List ByteArray) (lv:Value) (H':j5) (W:World) (hW:j4 H' W) (hle:D8 H H') (h2:Sl H' lv p)=>aA3 vm vb vt um uo ua lv t p H' W hW (ht.mono hle) h2
 have ab6:=cYY (l++[ch3 (N:Int) a])
 have cY2:=cYY (l.set N a)
 have cY3:=cYY (l++[ch3 (N:Int) z])
 have cE:=fun(p q:List ByteArray) (h1:p.length≤24) (h2:q.length≤24) (z1:∀s∈p,s.size≤900) (z2:∀s∈q,s.size≤900) (hs:ba7 t p q=true) (lv mv:Value) (H':j5) (W:World) (hW:j4 H' W) (hle:D8 H H') (h1':Sl H' lv p) (h2':Sl H' mv q)=>cH0 vm vb vt um uo ua lv mv t p q R.v h1 h2 z1 z2 hs H' (dr.mono hle) W hW (ht.mono hle) h1' h2'
 have cEs:=fun(hc:∀s∈l,(A8 s).kind≠5∧(A8 s).kind≠6)=>
  have la:=law hc
  have hp:=fun(q:ByteArray) (hq:q.size≤900) (s:ByteArray) (hs:s∈l++[q])=>show s.size≤900 from by
   rcases List.mem_append.1 hs with h|h
   ·exact hs9 s h
   ·rw[List.mem_singleton.1 h];exact hq
  have hset:=fun(q:ByteArray) (hq:q.size≤900) (s:ByteArray) (hs:s∈l.set N q)=>show s.size≤900 from by
   rcases List.mem_or_eq_of_mem_set hs with h|h
   ·exact hs9 s h
   ·rw[h];exact hq
  And.intro (cE (l++[ch3 (N:Int) a]) (l.set N a) (by simp;omega) (by simp;omega) (hp _ z1) (hset _ (by omega)) la.1)
   (And.intro (cE (l++[ch3 (N:Int) z]) l (by simp;omega) (by omega) (hp _ z2) hs9 la.2.1)
    (cE (l++[ch3 (N:Int) au8]) (l.set N ⟨#[]⟩) (by simp;omega) (by simp;omega) (hp _ z3) (hset _ (by decide)) la.2.2))
 have de3:∀x∈[ch3 (N:Int) a],x.size≤1000000:=fun x hx=>by rw[List.mem_singleton.1 hx];omega
 have de4:∀x∈[ch3 (N:Int) z],x.size≤1000000:=fun x hx=>by rw[List.mem_singleton.1 hx];omega
 have dE1:∀x∈[ch3 (N:Int) au8],x.size≤1000000:=fun x hx=>by rw[List.mem_singleton.1 hx];omega
 obtain⟨r1,hr1⟩:∃r1,aF8 t (l++[ch3 (N:Int) a])=r1:=⟨_,rfl⟩
 obtain⟨r2,hr2⟩:∃r2,aF8 t (l.set N a)=r2:=⟨_,rfl⟩
 obtain⟨r3,hr3⟩:∃r3,aF8 t (l++[ch3 (N:Int) z])=r3:=⟨_,rfl⟩
 rw[hr1]at ab6
 rw[hr2]at cY2
 rw[hr3]at cY3
 clear law cE cJ cYY hE nk z1 z2 z3 hr1 hr2 hr3 hgz hzs
 have sl:=hl
 generalize ch3 (N:Int) a=S1 at*
 generalize ch3 (N:Int) z=S2 at*
 generalize ch3 (N:Int) au8=S3 at*
 generalize l++[S1]=L1 at*
 generalize l++[S2]=L2 at*
 generalize l++[S3]=L3 at*
 generalize l.set N a=M1 at*
 generalize l.set N ⟨#[]⟩=ad8 at*
 replace cI:=fe6 cI
 replace cKa:=fe6 cKa
 replace cK9:=fe6 cK9
 replace cY:=fe6 cY
 replace ab6:=fe6 ab6
 replace cY2:=fe6 cY2
 replace cY3:=fe6 cY3
 replace H8:=fe6 H8
 replace aa2:=fe6 aa2
 replace ab1:=fe6 ab1
 replace cWa:=fe6 cWa
 replace cWe:=fe6 cWe
 replace cJ1:=fe6 cJ1
 replace cJ2:=fe6 cJ2
 replace cJ3:=fe6 cJ3
 replace cEs:=fe6 cEs
 replace de3:=fe6 de3
 replace de4:=fe6 de4
 replace dE1:=fe6 dE1
 replace hz:=fe6 hz
 clear hr R ht dr hsz hll hl ka hI hs9 hnI
 go_enter Tryz.func3,Tryz.ntmps3
 go_upto_region 1 with(first|(have hgd:=hx;refine af8 rfl _ rfl hx ?_;intro C w2 H2 hle2 hx2 hC hCw;have g0:∀W,j4 H2 W→W.cell? ⟨C,0,none⟩=some (.int .i64 (N:Int)):=fun W hW=>D7 hC hW 0;have g1:∀W,j4 H2 W→W.cell? ⟨C,1,none⟩=some (.string a):=fun W hW=>D7 hC hW 1;replace hc0:=lift hle2 hc0;replace hc1:=lift hle2 hc1;replace hc2:=lift hle2 hc2;replace hc3:=lift hle2 hc3;replace hc4:=lift hle2 hc4;replace O8:=lift hle2 O8;replace hc6:=lift hle2 hc6;replace O9:=lift hle2 O9;replace hle:=hle.trans hle2;clear hC hx hw1 hle2;have hw2:=hx2.holds)|(refine af8 rfl _ rfl (Ext.refl hw) ?_;intro B w1 H1 hle hx hB hBw;obtain⟨hc0,hc1,hc2,hc3,hc4,O8,hc6,O9⟩:=I5 hB;clear hB hw;have hw1:=hx.holds))
 go_upto_region 3 with(first|(go_at_call 15;go_must (refine(cI.out _ _ hw2 hle).mono ?_);rintro e w4 ⟨rfl,hb4⟩;have x4:=hx2.step (hb4.mono hx2.below.size) (hw2.below hb4);have hw4:=x4.holds)|(have hgd:=hw4;clear hgd;go_at_call 16;go_must (refine(cKa.out _ _ hw4).mono ?_);rintro e w5 ⟨rfl,hb5⟩;have x5:=x4.step (hb5.mono x4.below.size) (hw4.below hb5);have hw5:=x5.holds;clear hw4)|(go_at_call 17;go_must (refine(cY.out _ _ x5.holds hle).mono ?_);rintro e w6 ⟨rfl,hb6⟩;have x6:=x5.step (hb6.mono x5.below.size) (x5.holds.below hb6);have hw6:=x6.holds))
 clear cI cKa cY
 go_wp2_with fail
 go_loopw [7] (fun i wr=>∃k:Nat,k≤l.length∧i= .int .i64 (k:Int)∧Hid (∀s∈l.take k,(A8 s).kind≠5∧(A8 s).kind≠6)∧Ext w H wr H2) (fun i _=>l.length-(intOf i).toNat)
 case atStart=>exact⟨0,fh3 _,rfl,fe6 (fun s hs=>by simp at hs),x6⟩
 case round=>
  clear x6 x5 x4 hx2 hw2 hw5 hw6
  obtain⟨k,hk,rfl,hno,E5⟩:=hrel
  have hwr:=E5.holds
  by_cases hlk:k<l.length
  ·obtain⟨z9,hz9⟩:=At.mk hlk
   have sl2:=sl.mono hle
   obtain⟨b9,o9,c9,hez,hszz,p9⟩:=sl2.str hz9
   cases hez
   have hm:=fun(W:World) (hW:j4 H2 W)=>cK9.out z9 hz9.mem H2 W hW
   have hk0:(0:Int)≤(k:Int):=by omega
   have hk1:(k:Int)<(l.length:Int):=by omega
   have cw8:=fun(h5:(A8 z9).kind≠5) (h6:(A8 z9).kind≠6)=>fe6 (show ∀s∈l.take (k+1),(A8 s).kind≠5∧(A8 s).kind≠6 from fun s hs=>by
    rw[hz9.take]at hs
    rcases List.mem_append.1 hs with h|h
    ·exact hno.out s h
    ·rw[List.mem_singleton.1 h];exact⟨h5,h6⟩)
   clear hno hszz hz9
   generalize(A8 z9).kind=Kz at*
   replace hm:=fe6 hm
   by_cases k5:Kz=5
   ·clear cw8
    go_wp2_with(first|(go_at_call 16;go_must (refine(hm.out _ hwr).mono ?_);rintro e w9 ⟨rfl,hb9⟩;have x9:=E5.step (hb9.mono E5.below.size) (hwr.below hb9))|(go_at_call 18;(refine(cW.out _ _ x9.holds hle).mono ?_;rintro e wz ⟨rfl,hbz⟩;have xz:=x9.step (hbz.mono x9.below.size) (x9.holds.below hbz))))
    go_ret
    exact⟨rfl,xz.below⟩
   ·by_cases k6:Kz=6
    ·clear cw8
     have t5:(Kz==5)=false:=beq_eq_false_iff_ne.2 k5
     go_wp2_with(first|(go_at_call 16;go_must (refine(hm.out _ hwr).mono ?_);rintro e w9 ⟨rfl,hb9⟩;have x9:=E5.step (hb9.mono E5.below.size) (hwr.below hb9))|(go_at_call 18;(refine(cW.out _ _ x9.holds hle).mono ?_;rintro e wz ⟨rfl,hbz⟩;have xz:=x9.step (hbz.mono x9.below.size) (x9.holds.below hbz))))
     go_ret
     exact⟨rfl,xz.below⟩
    ·replace cw8:=fe6 (cw8 k5 k6)
     have t5:(Kz==5)=false:=beq_eq_false_iff_ne.2 k5
     have t6:(Kz==6)=false:=beq_eq_false_iff_ne.2 k6
     go_wp2_with(go_at_call 16;go_must (refine(hm.out _ hwr).mono ?_);rintro e w9 ⟨rfl,hb9⟩)
     go_roundw
     case rel=>exact⟨k+1,by omega,by go_num,cw8.out,E5.step (hb9.mono E5.below.size) (hwr.below hb9)⟩
     case measure=>simp[intOf];omega
  ·have hke:k=l.length:=by omega
   subst hke
   rw[List.take_length]at hno
   obtain⟨ae0,cE2,ae3⟩:=cEs.out hno.out
   replace ae0:=fe6 ae0
   replace cE2:=fe6 cE2
   replace ae3:=fe6 ae3
   have hk1:¬(l.length:Int)<(l.length:Int):=by omega
   clear hno cEs cK9 hk hlk
   go_upto_region 10 with(first|(go_at_call 20;go_must (refine(H8.out _).mono ?_);rintro e wla ⟨rfl,dE2⟩;have xla:=E5.step (dE2.mono E5.below.size) (E5.holds.below dE2))|(go_at_call 19;obtain⟨HA,lA,xA,sO⟩:=aN5 xla [S1] de3.out (by simp);obtain⟨HB,lB,xB,e0,e1⟩:=bn8 xA (.slice (some ⟨b1,o1,none⟩) (List.length l) cl) (.slice (some ⟨wla.heap.size,0,none⟩) 1 1) 33;rw[World.size_alloc]at e0 e1;go_must (refine(cJ1.out _ _ _ xB.holds (hle.trans (lA.trans lB)) (sO.mono lB) _ e0 e1).mono ?_);rintro e wja ⟨_,Hja,rfl,yJ,sja⟩;obtain⟨pja,qja,rfl,_,_⟩:=sja.form;have xja:=xB.trans yJ;have lja:=(lA.trans lB).trans (yJ.le xB.holds)))
   have hwA:=xja.holds
   replace hc0:=lift lja hc0
   replace hc1:=lift lja hc1
   replace hc2:=lift lja hc2
   replace hc3:=lift lja hc3
   replace hc4:=lift lja hc4
   replace O8:=lift lja O8
   replace hc6:=lift lja hc6
   replace O9:=lift lja O9
   replace g0:=lift lja g0
   replace g1:=lift lja g1
   replace hle:=hle.trans lja
   clear E5 hwr xA xB yJ lA lB e0 e1 sO xla dE2 H8 cJ1 lja de3
   go_cut [92] (fun v wx=>v= .bool false∧∃Hx,Ext w H wx Hx∧D8 Hja Hx)
   case first=>
    cases r1
    ·refine U1 (S:=(fun w'=>j4 Hja w')) 24 (by kernel_rfl) (by kernel_rfl) ?_ (fun N9=> ?_)
     ·(try dsimp only)
      (first|assumption|exact j4.drew ‹_›|exact j4.alloc ‹_› _)
     simp only[ff8,fg1,fh6,fh7,fg9,fg8,fg3,ff9,fg2]
     have xk0:=xja.drew
     have lk0:D8 Hja Hja:=D8.refl _
     generalize World.drew wja=wk0 at*
     refine hdB 0 ?_
     refine hdB 1 ?_
     (try simp only[Act.put,fe7,ff1,ff2])
     refine hdR 2 [] (fun K hK=> ?_) r9.nil
     go_simp
     go_at_call 17
     go_must (refine(ab6.out _ _ _ xk0.holds (hle.trans lk0) sja).mono ?_)
     rintro e wk1 ⟨rfl,hb⟩
     have xk1:=xk0.step (hb.mono xk0.below.size) (xk0.holds.below hb)
     have kk:=xk1.holds.mono lk0
     clear hb
     refine hK.out _ _ kk (fun I4=> ?_)
     clear hK K N9
     refine hdB 3 ?_
     refine hdS 4 ?_
     refine hdS 5 ?_
     refine hdS 6 ?_
     refine hdS 7 ?_
     refine hdS 8 ?_
     refine hdS 9 ?_
     refine hdS 10 ?_
     refine hdS 11 ?_
     refine hdB 12 ?_
     refine hdB 13 ?_
     refine hdS 14 ?_
     refine hdS 15 ?_
     refine hdS 16 ?_
     refine hdS 17 ?_
     refine hdS 18 ?_
     refine hdS 19 ?_
     refine hdS 20 ?_
     refine hdS 21 ?_
     refine hdS 22 ?_
     refine hdS 23 ?_
     (try simp only[Act.put,fe7,ff1,ff2])
     refine G9 (by kernel_rfl) ?_
     simp only[ff5,ff6]
     go_wp2_with fail
     go_meet
     exact⟨rfl,_,xk1,lk0⟩
    ·cases r2
     ·refine U1 (S:=(fun w'=>j4 Hja w')) 24 (by kernel_rfl) (by kernel_rfl) ?_ (fun N9=> ?_)
      ·(try dsimp only)
       (first|assumption|exact j4.drew ‹_›|exact j4.alloc ‹_› _)
      simp only[ff8,fg1,fh6,fh7,fg9,fg8,fg3,ff9,fg2]
      have xk0:=xja.drew
      have lk0:D8 Hja Hja:=D8.refl _
      generalize World.drew wja=wk0 at*
      refine hdB 0 ?_
      refine hdB 1 ?_
      (try simp only[Act.put,fe7,ff1,ff2])
      refine hdR 2 [] (fun K hK=> ?_) r9.nil
      go_simp
      go_at_call 17
      go_must (refine(ab6.out _ _ _ xk0.holds (hle.trans lk0) sja).mono ?_)
      rintro e wk1 ⟨rfl,hb⟩
      have xk1:=xk0.step (hb.mono xk0.below.size) (xk0.holds.below hb)
      have kk:=xk1.holds.mono lk0
      clear hb
      refine hK.out _ _ kk (fun I4=> ?_)
      clear hK K N9
      refine hdB 3 ?_
      refine hdB 4 ?_
      refine hdB 5 ?_
      refine hdB 6 ?_
      refine hdB 7 ?_
      refine hdB 8 ?_
      refine hdB 9 ?_
      (try simp only[Act.put,fe7,ff1,ff2])
      refine hdR 10 [] (fun K hK=> ?_) r9.nil
      go_simp
      go_at_call 21
      go_must (refine(cWa.out _ _ xk1.holds (hle.trans lk0)).mono ?_)
      rintro e wk2 ⟨_,Gk1,rfl,y,sM⟩
      obtain⟨pM,qM,rfl,_,_⟩:=sM.form
      have xk2:=xk1.trans y
      have lk1:=lk0.trans (y.le xk1.holds)
      have kk:=xk2.holds.mono lk1
      clear y
      refine hK.out _ _ kk (fun F8=> ?_)
      clear hK K I4
      (try simp only[Act.put,fe7,ff1,ff2])
      refine hdR 11 [] (fun K hK=> ?_) r9.nil
      go_simp
      go_at_call 17
      go_must (refine(cY2.out _ _ _ xk2.holds (hle.trans lk1) sM).mono ?_)
      rintro e wk3 ⟨rfl,hb⟩
      have xk3:=xk2.step (hb.mono xk2.below.size) (xk2.holds.below hb)
      have kk:=xk3.holds.mono lk1
      clear hb
      refine hK.out _ _ kk (fun F9=> ?_)
      clear hK K F8
      refine hdB 12 ?_
      refine hdB 13 ?_
      refine hdS 14 ?_
      refine hdS 15 ?_
      refine hdS 16 ?_
      refine hdS 17 ?_
      refine hdS 18 ?_
      refine hdS 19 ?_
      refine hdS 20 ?_
      refine hdS 21 ?_
      refine hdS 22 ?_
      refine hdS 23 ?_
      (try simp only[Act.put,fe7,ff1,ff2])
      refine G9 (by kernel_rfl) ?_
      simp only[ff5,ff6]
      go_wp2_with fail
      go_meet
      exact⟨rfl,_,xk3,lk1⟩
     ·refine U1 (S:=(fun w'=>j4 Hja w')) 24 (by kernel_rfl) (by kernel_rfl) ?_ (fun N9=> ?_)
      ·(try dsimp only)
       (first|assumption|exact j4.drew ‹_›|exact j4.alloc ‹_› _)
      simp only[ff8,fg1,fh6,fh7,fg9,fg8,fg3,ff9,fg2]
      have xk0:=xja.drew
      have lk0:D8 Hja Hja:=D8.refl _
      generalize World.drew wja=wk0 at*
      refine hdB 0 ?_
      refine hdB 1 ?_
      (try simp only[Act.put,fe7,ff1,ff2])
      refine hdR 2 [] (fun K hK=> ?_) r9.nil
      go_simp
      go_at_call 17
      go_must (refine(ab6.out _ _ _ xk0.holds (hle.trans lk0) sja).mono ?_)
      rintro e wk1 ⟨rfl,hb⟩
      have xk1:=xk0.step (hb.mono xk0.below.size) (xk0.holds.below hb)
      have kk:=xk1.holds.mono lk0
      clear hb
      refine hK.out _ _ kk (fun I4=> ?_)
      clear hK K N9
      refine hdB 3 ?_
      refine hdB 4 ?_
      refine hdB 5 ?_
      refine hdB 6 ?_
      refine hdB 7 ?_
      refine hdB 8 ?_
      refine hdB 9 ?_
      (try simp only[Act.put,fe7,ff1,ff2])
      refine hdR 10 [] (fun K hK=> ?_) r9.nil
      go_simp
      go_at_call 21
      go_must (refine(cWa.out _ _ xk1.holds (hle.trans lk0)).mono ?_)
      rintro e wk2 ⟨_,Gk1,rfl,y,sM⟩
      obtain⟨pM,qM,rfl,_,_⟩:=sM.form
      have xk2:=xk1.trans y
      have lk1:=lk0.trans (y.le xk1.holds)
      have kk:=xk2.holds.mono lk1
      clear y
      refine hK.out _ _ kk (fun F8=> ?_)
      clear hK K I4
      (try simp only[Act.put,fe7,ff1,ff2])
      refine hdR 11 [] (fun K hK=> ?_) r9.nil
      go_simp
      go_at_call 17
      go_must (refine(cY2.out _ _ _ xk2.holds (hle.trans lk1) sM).mono ?_)
      rintro e wk3 ⟨rfl,hb⟩
      have xk3:=xk2.step (hb.mono xk2.below.size) (xk2.holds.below hb)
      have kk:=xk3.holds.mono lk1
      clear hb
      refine hK.out _ _ kk (fun F9=> ?_)
      clear hK K F8
      refine hdB 12 ?_
      refine hdB 13 ?_
      refine hdB 14 ?_
      refine hdB 15 ?_
      refine hdB 16 ?_
      refine hdB 17 ?_
      refine hdB 18 ?_
      refine hdB 19 ?_
      refine hdB 20 ?_
      (try simp only[Act.put,fe7,ff1,ff2])
      refine hdR 21 [] (fun K hK=> ?_) r9.nil
      go_simp
      go_at_call 21
      go_must (refine(cWa.out _ _ xk3.holds (hle.trans lk1)).mono ?_)
      rintro e wk4 ⟨_,Gk2,rfl,y,sM⟩
      obtain⟨pM,qM,rfl,_,_⟩:=sM.form
      have xk4:=xk3.trans y
      have lk2:=lk1.trans (y.le xk3.holds)
      have kk:=xk4.holds.mono lk2
      clear y
      refine hK.out _ _ kk (fun I7=> ?_)
      clear hK K F9
      (try simp only[Act.put,fe7,ff1,ff2])
      refine hdR 22 [] (fun K hK=> ?_) r9.nil
      go_simp
      go_at_call 22
      go_must (refine(ae0.out _ _ _ _ xk4.holds (hle.trans lk2) (sja.mono lk2) sM).mono ?_)
      rintro e wk5 ⟨rfl,hb⟩
      have xk5:=xk4.step (hb.mono xk4.below.size) (xk4.holds.below hb)
      have kk:=xk5.holds.mono lk2
      clear hb
      refine hK.out _ _ kk (fun aa1=> ?_)
      clear hK K I7
      refine hdB 23 ?_
      (try simp only[Act.put,fe7,ff1,ff2])
      refine G9 (by kernel_rfl) ?_
      simp only[ff5,ff6]
      go_wp2_with fail
      go_meet
      exact⟨rfl,_,xk5,lk2⟩
   case rest=>
    obtain⟨rfl,H5,x5,l5⟩:=hcut
    have hw5:=x5.holds
    replace hc0:=lift l5 hc0
    replace hc1:=lift l5 hc1
    replace hc2:=lift l5 hc2
    replace hc3:=lift l5 hc3
    replace hc4:=lift l5 hc4
    replace O8:=lift l5 O8
    replace hc6:=lift l5 hc6
    replace O9:=lift l5 O9
    replace g0:=lift l5 g0
    replace g1:=lift l5 g1
    replace hle:=hle.trans l5
    replace sja:=sja.mono l5
    replace p1:=lift hle p1
    clear xja hwA ab6 cY2 cWa ae0 l5
    go_upto_region 12 with fail
    go_cut [10] (fun v wx=>∃p c Hx,v= .slice p L2.length c∧Ext w H wx Hx∧D8 H5 Hx∧Sl Hx v L2)
    case first=>
     refine U1 (S:=(fun w'=>j4 H5 w')) 12 (by kernel_rfl) (by kernel_rfl) ?_ (fun N9=> ?_)
     ·(try dsimp only)
      (first|assumption|exact j4.drew ‹_›|exact j4.alloc ‹_› _)
     simp only[ff8,fg1,fh6,fh7,fg9,fg8,fg3,ff9,fg2]
     have xm0:=x5.drew
     have lm0:D8 H5 H5:=D8.refl _
     generalize World.drew wc=wm0 at*
     refine hdB 0 ?_
     refine hdB 1 ?_
     refine hdB 2 ?_
     refine hdB 3 ?_
     refine hdB 4 ?_
     refine hdB 5 ?_
     refine hdB 6 ?_
     refine hdB 7 ?_
     (try simp only[Act.put,fe7,ff1,ff2])
     refine hdR 8 [] (fun K hK=> ?_) r9.nil
     go_simp
     go_at_call 20
     go_must (refine(aa2.out _).mono ?_)
     rintro e wm1 ⟨rfl,hb⟩
     have xm1:=xm0.step (hb.mono xm0.below.size) (xm0.holds.below hb)
     have kk:=xm1.holds.mono lm0
     clear hb
     refine hK.out _ _ kk (fun I4=> ?_)
     clear hK K N9
     (try simp only[Act.put,fe7,ff1,ff2])
     refine hdR 9 [] (fun K hK=> ?_) r9.nil
     go_simp
     obtain⟨Gm1,lq,y,sQ⟩:=el7 (Ext.refl xm1.holds) de4.out
     generalize World.alloc wm1 (.cells #[.string S2] 9)=wm2 at*
     generalize(World.heap wm1).size=gq at*
     have xm2:=xm1.trans y
     have lm1:=lm0.trans (y.le xm1.holds)
     have kk:=xm2.holds.mono lm1
     clear y
     refine hK.out _ _ kk (fun F8=> ?_)
     clear hK K I4
     (try simp only[Act.put,fe7,ff1,ff2])
     refine hdR 10 [] (fun K hK=> ?_) r9.nil
     go_simp
     obtain⟨Gm2,lr,y,e0,e1⟩:=bn8 (Ext.refl xm2.holds) (.slice (some ⟨b1,o1,none⟩) (List.length l) cl) (.slice (some ⟨gq,0,none⟩) 1 1) 33
     replace sQ:=sQ.mono lr
     generalize World.alloc wm2 (.cells #[.slice (some ⟨b1,o1,none⟩) (List.length l) cl,.slice (some ⟨gq,0,none⟩) 1 1] 33)=wm3 at*
     generalize(World.heap wm2).size=gs at*
     have xm3:=xm2.trans y
     have lm2:=lm1.trans (y.le xm2.holds)
     have kk:=xm3.holds.mono lm2
     clear y
     refine hK.out _ _ kk (fun F9=> ?_)
     clear hK K F8
     (try simp only[Act.put,fe7,ff1,ff2])
     refine hdR 11 [] (fun K hK=> ?_) r9.nil
     go_simp
     go_at_call 19
     go_must (refine(cJ2.out _ _ _ xm3.holds (hle.trans lm2) sQ _ e0 e1).mono ?_)
     rintro e wm4 ⟨_,Gm3,rfl,y,sM⟩
     obtain⟨pM,qM,rfl,_,_⟩:=sM.form
     have xm4:=xm3.trans y
     have lm3:=lm2.trans (y.le xm3.holds)
     have kk:=xm4.holds.mono lm3
     clear y
     refine hK.out _ _ kk (fun I7=> ?_)
     clear hK K F9
     (try simp only[Act.put,fe7,ff1,ff2])
     refine G9 (by kernel_rfl) ?_
     simp only[ff5,ff6]
     go_wp2_with fail
     go_meet
     exact⟨_,_,_,rfl,xm4,lm3,sM⟩
    case rest=>
     obtain⟨pK,qK,H6,rfl,x6,l6,sK⟩:=hcut
     have hw6:=x6.holds
     replace hc0:=lift l6 hc0
     replace hc1:=lift l6 hc1
     replace hc2:=lift l6 hc2
     replace hc3:=lift l6 hc3
     replace hc4:=lift l6 hc4
     replace O8:=lift l6 O8
     replace hc6:=lift l6 hc6
     replace O9:=lift l6 O9
     replace g0:=lift l6 g0
     replace g1:=lift l6 g1
     replace hle:=hle.trans l6
     replace sja:=sja.mono l6
     have sll:=sl.mono hle
     clear x5 hw5 aa2 cJ2 l6 p1 de4
     have mk1:Hid True:=fe6 trivial
     go_upto_region 13 with fail
     go_cut [114] (fun v wx=>v= .bool false∧Ext w H wx H6)
     case first=>
      cases r3
      ·go_wp2_with(go_at_call 17;go_must (refine(cY3.out _ _ _ hw6 hle sK).mono ?_);rintro e w7 ⟨rfl,hb7⟩;have x7:=x6.step (hb7.mono x6.below.size) (hw6.below hb7);have hw7:=x7.holds)
       go_meet
       exact⟨rfl,x7⟩
      ·go_wp2_with(first|(go_at_call 17;go_must (refine(cY3.out _ _ _ hw6 hle sK).mono ?_);rintro e w7 ⟨rfl,hb7⟩;have x7:=x6.step (hb7.mono x6.below.size) (hw6.below hb7);have hw7:=x7.holds)|(go_at_call 22;go_must (refine(cE2.out _ _ _ _ hw7 hle sK sll).mono ?_);rintro e w8 ⟨rfl,hb8⟩;have x8:=x7.step (hb8.mono x7.below.size) (hw7.below hb8);have hw8:=x8.holds;replace x7:=x8))
       go_meet
       exact⟨rfl,x7⟩
     case rest=>
      obtain⟨rfl,x7⟩:=hcut
      have hw7:=x7.holds
      clear x6 hw6 sK sll cY3 cE2
      go_upto_region 15 with fail
      go_upto_region 16 with(first|(go_at_call 20;go_must (refine(ab1.out _).mono ?_);rintro e wlc ⟨rfl,el4⟩;have xlc:=x7.step (el4.mono x7.below.size) (x7.holds.below el4))|(go_at_call 19;obtain⟨HA,lA,xA,sO⟩:=aN5 xlc [S3] dE1.out (by simp);obtain⟨HB,lB,xB,e0,e1⟩:=bn8 xA (.slice (some ⟨b1,o1,none⟩) (List.length l) cl) (.slice (some ⟨wlc.heap.size,0,none⟩) 1 1) 33;rw[World.size_alloc]at e0 e1;go_must (refine(cJ3.out _ _ _ xB.holds (hle.trans (lA.trans lB)) (sO.mono lB) _ e0 e1).mono ?_);rintro e wjc ⟨_,Hjc,rfl,yJ,sjc⟩;obtain⟨pjc,qjc,rfl,_,_⟩:=sjc.form;have xjc:=xB.trans yJ;have ljc:=(lA.trans lB).trans (yJ.le xB.holds)))
      have hwC:=xjc.holds
      replace hc0:=lift ljc hc0
      replace hc1:=lift ljc hc1
      replace hc2:=lift ljc hc2
      replace hc3:=lift ljc hc3
      replace hc4:=lift ljc hc4
      replace O8:=lift ljc O8
      replace hc6:=lift ljc hc6
      replace O9:=lift ljc O9
      replace g0:=lift ljc g0
      replace g1:=lift ljc g1
      replace hle:=hle.trans ljc
      clear xA xB yJ lA lB e0 e1 sO
      refine U1 (S:=(fun w'=>j4 Hjc w')) 10 (by kernel_rfl) (by kernel_rfl) ?_ (fun N9=> ?_)
      ·(try dsimp only)
       (first|assumption|exact j4.drew ‹_›|exact j4.alloc ‹_› _)
      simp only[ff8,fg1,fh6,fh7,fg9,fg8,fg3,ff9,fg2]
      have xq0:=xjc.drew
      have lq0:D8 Hjc Hjc:=D8.refl _
      generalize World.drew wjc=wq0 at*
      refine hdB 0 ?_
      refine hdB 1 ?_
      refine hdB 2 ?_
      refine hdB 3 ?_
      refine hdB 4 ?_
      (try simp only[Act.put,fe7,ff1,ff2])
      refine hdR 5 [] (fun K hK=> ?_) r9.nil
      go_simp
      go_at_call 21
      go_must (refine(cWe.out _ _ xq0.holds (hle.trans lq0)).mono ?_)
      rintro e wq1 ⟨_,Gq1,rfl,y,sM⟩
      obtain⟨pM,qM,rfl,_,_⟩:=sM.form
      have xq1:=xq0.trans y
      have lq1:=lq0.trans (y.le xq0.holds)
      have kk:=xq1.holds.mono lq1
      clear y
      refine hK.out _ _ kk (fun I4=> ?_)
      clear hK K N9
      (try simp only[Act.put,fe7,ff1,ff2])
      refine hdR 6 [] (fun K hK=> ?_) r9.nil
      go_simp
      go_at_call 22
      go_must (refine(ae3.out _ _ _ _ xq1.holds (hle.trans lq1) (sjc.mono lq1) sM).mono ?_)
      rintro e wq2 ⟨rfl,hb⟩
      have xq2:=xq1.step (hb.mono xq1.below.size) (xq1.holds.below hb)
      have kk:=xq2.holds.mono lq1
      clear hb
      refine hK.out _ _ kk (fun F8=> ?_)
      clear hK K I4
      refine hdB 7 ?_
      (try simp only[Act.put,fe7,ff1,ff2])
      refine hdR 8 [] (fun K hK=> ?_) r9.nil
      go_simp
      go_at_call 18
      go_must (refine(cW.out _ _ xq2.holds (hle.trans lq1)).mono ?_)
      rintro e wq3 ⟨rfl,hb⟩
      have xq3:=xq2.step (hb.mono xq2.below.size) (xq2.holds.below hb)
      have kk:=xq3.holds.mono lq1
      clear hb
      refine hK.out _ _ kk (fun F9=> ?_)
      clear hK K F8
      refine hdB 9 ?_
      (try simp only[Act.put,fe7,ff1,ff2])
      refine G9 (by kernel_rfl) ?_
      simp only[ff5,ff6]
      go_wp2_with fail
      go_ret
      exact⟨rfl,xq3.below⟩
end
end Go.Proofs.YtbliehinagkldaaGreatDoor
