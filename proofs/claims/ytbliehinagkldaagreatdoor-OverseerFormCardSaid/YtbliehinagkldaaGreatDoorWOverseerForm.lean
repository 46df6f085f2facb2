/- Lemmas and the walk of the law OverseerForm (names and blanks made short by a program). -/
import Derived.Test.YtbliehinagkldaaGreatDoorG01
import Derived.Test.YtbliehinagkldaaGreatDoorG03
import Derived.Test.YtbliehinagkldaaGreatDoorG04
import Derived.Test.YtbliehinagkldaaGreatDoorG05
import Derived.Test.YtbliehinagkldaaGreatDoorG10
import Derived.Test.YtbliehinagkldaaGreatDoorG19
import Derived.Deep.Slices
import Derived.SizedLaws
import Derived.OpenShut
import Derived.Lib.SmallJoins
import Derived.Deep.Strs
import Derived.ProofKit
import Derived.SevenTiedAt
import Derived.Rings
set_option linter.all false
set_option maxRecDepth 100000
set_option maxHeartbeats 16000000
open Go.Lib renaming hid → fe6
open List renaming length_append → ff4, length_singleton → ff7, length_cons → ff8, cons_append → fg2, length_map → fg5, take_of_length_le → fg7
open Nat renaming le_refl → fh0, add_zero → fh2, zero_le → fh3
namespace Go.Proofs.YtbliehinagkldaaGreatDoor
open Go.Proofs.YtbliehinagkldaaGreatDoor renaming u7 → uI7
section
open Go.RowKit Go.ChangeShapes Go.WideShapes Go.Deep
theorem aJ9 (w:World):j4 (ad6 w) w:=⟨fun _ _ e=>e⟩
end
section
theorem ay0 (a b:ByteArray):C9 (J8 (C8 a++32::C8 b))=C9 a++C9 b:=by
 unfold C9
 rw[show C8 (J8 (C8 a++32::C8 b))=C8 a++32::C8 b from rfl,bi7,List.map_append]
theorem ap5 {a:ByteArray} (h:∀b∈C8 a,b≠32):C9 a=[a]:=by
 unfold C9
 rw[aF1 h]
 rfl
theorem ca0 (a:ByteArray):C9 a≠[]:=fun e=>aB3 (C8 a) (by unfold C9 at e;exact List.map_eq_nil_iff.1 e)
end
section
theorem cz4:∀(s:List UInt8),∀w∈R9 s,∀b∈w,b≠32:=ad1 (fun w hw b hb=>by
 have:w=[]:=by simpa [R9]using hw
 rw[this]at hb;cases hb) fun s c ih w hw b hb=>by
 rw[ap3]at hw
 unfold U7 at hw
 split at hw
 ·rcases List.mem_append.1 hw with h|h
  ·exact ih w h b hb
  ·have:w=[]:=by simpa using h
   rw[this]at hb;cases hb
 ·rename_i hc
  rcases List.mem_append.1 hw with h|h
  ·exact ih w (List.dropLast_subset _ h) b hb
  ·have e:w=(R9 s).getLastD []++[c]:=by simpa using h
   rw[e]at hb
   rcases List.mem_append.1 hb with h2|h2
   ·have hne:=aB3 s
    rw[List.getLastD_eq_getLast?,List.getLast?_eq_some_getLast hne]at h2
    exact ih _ (List.getLast_mem hne) b h2
   ·have:b=c:=by simpa using h2
    rw[this];exact hc
theorem bL1 (s:ByteArray):∀w∈C9 s,∀b∈C8 w,b≠32:=fun w hw b hb=>by
 obtain⟨x,hx,rfl⟩:=List.mem_map.1 hw
 exact cz4 (C8 s) x hx b hb
end
section
theorem cM8 {w:ByteArray} {l:List ByteArray} (h:O5 w=none):T9 (w::l)=none:=by unfold T9;rw[h]
theorem cz5 {w:ByteArray} {l:List ByteArray} (h:T9 l=none):T9 (w::l)=none:=by unfold T9;rw[h];split<;>simp_all
theorem db4 {l:List F7} {x:F7} (hk:x.kind≠1) (he:(x.kind=5∨x.kind=6)→at5 l x.of=false):aa4 (l++[x])=aa4 l++[E9]:=by
 rw[aD5]
 unfold ak4
 rw[if_neg hk,if_neg]
 rintro⟨h1,h2⟩
 rw[he h1]at h2;cases h2
theorem dH2 {l:List F7} {x:F7} (hk:x.kind=1):aa4 (l++[x])=aa4 l++[x]:=by
 rw[aD5]
 unfold ak4
 rw[if_pos hk]
def cm6 (x:F7):F7:=if x.kind=1 then x else E9
theorem aI7:∀l:List F7,(∀x∈l,x.kind≠5∧x.kind≠6)→aa4 l=l.map cm6:=ad1 (fun _=>rfl) fun l x ih h=>by
 have hx:=h x (by simp)
 rw[List.map_append,List.map_singleton,←ih fun y hy=>h y (by simp[hy])]
 by_cases hk:x.kind=1
 ·rw[dH2 hk];unfold cm6;rw[if_pos hk]
 ·rw[db4 hk (by omega)];unfold cm6;rw[if_neg hk]
end
section
theorem cz7 {t:D5} {l:List ByteArray} (v:F6 t=true) (hl:l.length≤24) (h:∀s∈l,A8 s=E9):
 Y1 t l=List.replicate l.length ai7∧V5 t l=t∧O0 t l=[]:=by
 have hm:l.map A8=List.replicate l.length E9:=by
  rw[List.eq_replicate_iff]
  refine⟨by simp,fun x hx=> ?_⟩
  obtain⟨s,hs,rfl⟩:=List.mem_map.1 hx
  exact h s hs
 have hn:aa4 (l.map A8)=List.replicate l.length E9:=by
  rw[aI7 _ fun x hx=>by rw[hm]at hx;rw[List.eq_of_mem_replicate hx];decide,hm,List.map_replicate];rfl
 have hr:∀k,Z5 t (List.replicate k E9)=t∧aZ9 t (List.replicate k E9)=[]:=fun k=>by
  induction k with
  |zero=>exact⟨rfl,rfl⟩
  |succ k ih=>rw[List.replicate_succ];exact ih
 have ha:∀m:List ByteArray,(∀s∈m,A8 s=E9)→(M6 t m).ans=List.replicate m.length ai7:=ad1 (fun _=>rfl) fun m s ih hs=>by
  rw[bj1,ih fun x hx=>hs x (by simp[hx]),hs s (by simp),ff4,ff7,List.replicate_succ']
  rfl
 rw[ap6 v hl,aK0 v hl,aS9 v hl,hn,(hr _).1,(hr _).2,ha l h]
 exact⟨rfl,rfl,rfl⟩
theorem cn0:O5 ⟨#[]⟩=none:=by decide
theorem bD9 (p:List ByteArray):A7 (⟨#[]⟩::p)=E9:=by
 unfold A7
 split
 ·rfl
 ·rename_i ns e
  have e1:U3 ⟨#[]⟩= -1:=by decide
  have e2:Y3 ⟨#[]⟩= -1:=by decide
  rw[List.headD_cons,e1,e2,if_neg (by omega),if_neg (by omega)]
theorem dc0 {p:List ByteArray} {w:ByteArray} (hw:w∈p) (h:O5 w=none):T9 p=none:=by
 induction p with
 |nil=>cases hw
 |cons x p ih=>
  rcases List.mem_cons.1 hw with rfl|hw
  ·exact cM8 h
  ·exact cz5 (ih hw)
theorem bL4 {p:List ByteArray} {w:ByteArray} (hw:w∈p.tail) (h:O5 w=none):A7 p=E9:=aN9 (dc0 hw h)
theorem ca7 {a w:ByteArray} {p:List ByteArray} (h:O5 w=none):ac8 (a::w::p)=E9:=by
 have h0:A7 (a::w::p)=E9:=bL4 (w:=w) (by simp) h
 unfold ac8
 rw[if_neg (by rw[h0];decide)]
 simp only[h]
theorem cz8 (p:List ByteArray):ac8 (⟨#[]⟩::p)=E9:=by
 unfold ac8
 rw[if_neg (by rw[bD9];decide)]
 cases p with
 |nil=>rfl
 |cons w r=>
  simp only
  split
  ·rfl
  ·rw[if_neg (by decide),if_neg (by decide),if_neg (by decide)]
theorem bt9 (p:List ByteArray):A7 (p++[⟨#[]⟩])=E9:=by
 cases p with
 |nil=>exact bD9 []
 |cons a p=>exact bL4 (w:=⟨#[]⟩) (by simp) cn0
theorem cn1 {p:List ByteArray} (hp:p≠[]):ac8 (p++[⟨#[]⟩])=E9:=by
 unfold ac8
 rw[if_neg (by rw[bt9];decide)]
 match p,hp with
 |[w],_=>rw[show [w]++[(⟨#[]⟩:ByteArray)]=[w,⟨#[]⟩]from rfl];simp only[cn0]
 |w::nw::r,_=>
  rw[show w::nw::r++[(⟨#[]⟩:ByteArray)]=w::nw::(r++[⟨#[]⟩])from rfl]
  simp only
  split
  ·rfl
  ·split
   ·rw[if_neg (by simp)]
   ·split
    ·rw[if_neg (by rw[bt9];rintro⟨_,h⟩;cases h)]
    ·split
     ·cases r with
      |nil=>
       rw[show []++[(⟨#[]⟩:ByteArray)]=[⟨#[]⟩]from rfl]
       simp only
       rw[if_pos (.inl trivial)]
      |cons i r=>
       rw[show i::r++[(⟨#[]⟩:ByteArray)]=i::(r++[⟨#[]⟩])from rfl]
       simp only
       split
       ·rfl
       ·rw[if_neg,if_neg (by rw[bt9];decide)]
        intro h
        have h2:=congrArg List.getLast? h
        rw[List.getLast?_concat]at h2
        revert h2;decide
     ·rfl
theorem dc1 {a w:ByteArray} {p:List ByteArray} (h:(ac8 (a::w::p)).kind≠0):∃n,O5 w=some n:=by
 cases e:O5 w with
 |some n=>exact⟨n,rfl⟩
 |none=>rw[ca7 e]at h;exact absurd rfl h
theorem do8 {l:List UInt8} {neg:Bool} {n:Int} (h:am9 l neg=some n):l≠[]:=(aB6 h).2.1
theorem dH7 {w:ByteArray} {n:Int} (h:O5 w=some n):C8 w≠[]:=fun e=>by
 unfold O5 at h
 rw[e]at h
 exact absurd rfl (do8 h)
theorem dc2 {w:ByteArray} {n:Int} (h:O5 w=some n):O5 (J8 (48::C8 w))=none:=by
 have hn:=dH7 h
 have hl:1≤(C8 w).length:=List.length_pos_iff.2 hn
 show am9 (48::C8 w) false=none
 unfold am9
 rw[if_pos]
 exact .inr (.inr ⟨rfl,.inl (by rw[ff8];omega)⟩)
theorem dc3 (w:ByteArray):O5 (J8 (43::C8 w))=none:=by
 show am9 (43::C8 w) false=none
 unfold am9
 split
 ·rfl
 ·rw[if_neg]
  rw[List.all_cons,show W9 43=false by decide,Bool.false_and]
  decide
end
section
def V8 (g:ByteArray→List UInt8) (q:List ByteArray):List UInt8:=q.flatMap fun w=>32::(g w++C8 w)
theorem aP6 (g:ByteArray→List UInt8) (q:List ByteArray) (w:ByteArray):V8 g (q++[w])=V8 g q++32::(g w++C8 w):=by unfold V8;rw[List.flatMap_append];simp
theorem cn7 (u:List UInt8) (g:ByteArray→List UInt8) (q:List ByteArray):∃rest,C9 (J8 (u++V8 g q))=C9 (J8 u)++rest:=by
 cases q with
 |nil=>exact⟨[],by unfold V8;simp⟩
 |cons c q=>
  refine⟨C9 (J8 (g c++C8 c++V8 g q)), ?_⟩
  rw[←ay0]
  unfold V8
  rw[List.flatMap_cons]
  show C9 (J8 _)=C9 (J8 (u++32::_))
  simp only[fg2,List.append_assoc]
  rfl
theorem bu1 {x b:ByteArray} {g:ByteArray→List UInt8} {q:List ByteArray} {w:ByteArray} {rest:List ByteArray} (hx:∀c∈C8 x,c≠32) (hw:C9 (J8 (g b++C8 b))=w::rest) (hn:O5 w=none):A8 (J8 (C8 x++V8 g (b::q)))=E9:=by
 obtain⟨r2,h2⟩:=cn7 (g b++C8 b) g q
 have h1:C9 (J8 (C8 x++V8 g (b::q)))=x::w::(rest++r2):=by
  have e:J8 (C8 x++V8 g (b::q))=J8 (C8 x++32::C8 (J8 (g b++C8 b++V8 g q))):=by
   unfold V8
   rw[List.flatMap_cons]
   simp only[fg2,List.append_assoc]
   rfl
  rw[e,ay0,h2,hw,ap5 hx]
  rfl
 unfold A8
 rw[h1]
 exact ca7 hn
def aT2:ByteArray→List UInt8:=fun _=>[32]
def an9:ByteArray→List UInt8:=fun w=>if aq5 w then [48]else []
def ao0:ByteArray→List UInt8:=fun w=>if aq5 w then [43]else []
theorem dc9 {w:ByteArray} {n:Int} (h:O5 w=some n):aq5 w=true:=by unfold aq5;rw[h];rfl
theorem cO1 {s x:ByteArray} {r:List ByteArray} (hs:C9 s=x::r) (hk:(A8 s).kind≠0):
 A8 (J8 (32::C8 s))=E9∧A8 (J8 (C8 s++[32]))=E9∧(r≠[]→A8 (J8 (C8 x++V8 aT2 r))=E9∧A8 (J8 (C8 x++V8 an9 r))=E9∧A8 (J8 (C8 x++V8 ao0 r))=E9∧r.any aq5=true)∧(r=[]→r.any aq5=false):=by
 have hno:=bL1 s
 rw[hs]at hno
 have hx:=hno x (by simp)
 refine⟨?_, ?_,fun hr=> ?_,fun hr=>by rw[hr];rfl⟩
 ·have e:C9 (J8 (32::C8 s))=⟨#[]⟩::C9 s:=by
   have h:=ay0 ⟨#[]⟩ s
   rw[ap5 (a:=⟨#[]⟩) (by decide)]at h
   exact h
  unfold A8
  rw[e];exact cz8 _
 ·have e:C9 (J8 (C8 s++[32]))=C9 s++[⟨#[]⟩]:=by
   have h:=ay0 s ⟨#[]⟩
   rw[ap5 (a:=⟨#[]⟩) (by decide)]at h
   exact h
  unfold A8
  rw[e];exact cn1 (ca0 s)
 ·obtain⟨b,q,rfl⟩:∃b q,r=b::q:=by cases r with|nil=>exact absurd rfl hr|cons b q=>exact⟨b,q,rfl⟩
  unfold A8 at hk
  rw[hs]at hk
  obtain⟨n,hn⟩:=dc1 hk
  have hb:=hno b (by simp)
  have hB:=dc9 hn
  refine⟨?_, ?_, ?_,by rw[List.any_cons,hB];rfl⟩
  ·refine bu1 hx (w:=⟨#[]⟩) (rest:=C9 b) ?_ cn0
   have h:=ay0 ⟨#[]⟩ b
   rw[ap5 (a:=⟨#[]⟩) (by decide)]at h
   exact h
  ·refine bu1 hx (w:=J8 (48::C8 b)) (rest:=[]) ?_ (dc2 hn)
   have e:an9 b++C8 b=48::C8 b:=by unfold an9;rw[hB];rfl
   rw[e]
   refine ap5 fun c hc=> ?_
   rcases List.mem_cons.1 (show c∈48::C8 b from hc)with h|h
   ·rw[h];decide
   ·exact hb c h
  ·refine bu1 hx (w:=J8 (43::C8 b)) (rest:=[]) ?_ (dc3 b)
   have e:ao0 b++C8 b=43::C8 b:=by unfold ao0;rw[hB];rfl
   rw[e]
   refine ap5 fun c hc=> ?_
   rcases List.mem_cons.1 (show c∈43::C8 b from hc)with h|h
   ·rw[h];decide
   ·exact hb c h
theorem cF8 (g:ByteArray→List UInt8) (hg:∀w,(g w).length≤1):∀q:List ByteArray,(V8 g q).length≤2*q.length+(q.map ByteArray.size).sum
 |[]=>fh0 _
 |w::q=>by
  have h:=cF8 g hg q
  have h1:=hg w
  unfold V8 at h ⊢
  rw[List.flatMap_cons,ff4,ff8,ff4,ff8,List.map_cons,List.sum_cons]
  have e:(C8 w).length=w.size:=rfl
  omega
theorem cO2:∀s:List UInt8,((R9 s).map List.length).sum+(R9 s).length=s.length+1:=ad1 rfl fun s b ih=>by
 rw[ap3]
 unfold U7
 by_cases h:b=32
 ·rw[if_pos h,List.map_append,List.sum_append,ff4,ff4]
  simp
  omega
 ·rw[if_neg h]
  have hne:=aB3 s
  obtain⟨p,c,hp⟩:∃p c,R9 s=p++[c]:=⟨_,_,(List.dropLast_concat_getLast hne).symm⟩
  rw[hp]at ih ⊢
  rw[List.map_append,List.sum_append,ff4]at ih
  rw[List.dropLast_concat,List.map_append,List.sum_append,ff4,ff4]
  simp at ih ⊢
  omega
theorem cO3 (s:ByteArray):((C9 s).map ByteArray.size).sum+(C9 s).length=s.size+1:=by
 have h:=cO2 (C8 s)
 unfold C9
 rw[List.map_map,fg5]
 exact h
theorem bH7 {s x:ByteArray} {r:List ByteArray} (hs:C9 s=x::r) (hz:s.size≤30) (g:ByteArray→List UInt8) (hg:∀w,(g w).length≤1) (k:Nat):(J8 (C8 x++V8 g (r.take k))).size≤61:=by
 have h:=cO3 s
 rw[hs,List.map_cons,List.sum_cons,ff8]at h
 have h1:=cF8 g hg r
 have h2:(V8 g (r.take k)).length≤(V8 g r).length:=by
  have e:V8 g r=V8 g (r.take k)++V8 g (r.drop k):=by
   unfold V8
   rw[←List.flatMap_append,List.take_append_drop]
  rw[e,ff4];omega
 show(C8 x++V8 g (r.take k)).length≤61
 rw[ff4]
 have e:(C8 x).length=x.size:=rfl
 omega
theorem dp3 (w:ByteArray):(aT2 w).length≤1:=fh0 _
theorem dp4 (w:ByteArray):(an9 w).length≤1:=by unfold an9;split<;>decide
theorem dp5 (w:ByteArray):(ao0 w).length≤1:=by unfold ao0;split<;>decide
theorem dp6 {x y:ByteArray} {r:List ByteArray} {k:Nat} (hy:At r k y):J8 (C8 x++V8 aT2 (r.take (k+1)))=J8 (C8 x++V8 aT2 (r.take k))++((⟨#[32,32]⟩:ByteArray)++y):=by
 rw[hy.take,aP6]
 apply ah1
 rw[aa5,aa5]
 show C8 x++(V8 aT2 (r.take k)++32::([32]++C8 y))=(C8 x++V8 aT2 (r.take k))++([32,32]++C8 y)
 simp
theorem dI5 {x y:ByteArray} {r:List ByteArray} {k:Nat} (hy:At r k y) (h:aq5 y=true):J8 (C8 x++V8 an9 (r.take (k+1)))=(J8 (C8 x++V8 an9 (r.take k))++(⟨#[32,48]⟩:ByteArray))++y∧J8 (C8 x++V8 ao0 (r.take (k+1)))=(J8 (C8 x++V8 ao0 (r.take k))++(⟨#[32,43]⟩:ByteArray))++y:=by
 have e1:an9 y=[48]:=by unfold an9;rw[h];rfl
 have e2:ao0 y=[43]:=by unfold ao0;rw[h];rfl
 rw[hy.take,aP6,aP6,e1,e2]
 constructor
 ·apply ah1
  rw[aa5,aa5]
  show C8 x++(V8 an9 (r.take k)++32::([48]++C8 y))=(C8 x++V8 an9 (r.take k))++[32,48]++C8 y
  simp
 ·apply ah1
  rw[aa5,aa5]
  show C8 x++(V8 ao0 (r.take k)++32::([43]++C8 y))=(C8 x++V8 ao0 (r.take k))++[32,43]++C8 y
  simp
theorem dO4 {x y:ByteArray} {r:List ByteArray} {k:Nat} (hy:At r k y) (h:aq5 y=false):J8 (C8 x++V8 an9 (r.take (k+1)))=(J8 (C8 x++V8 an9 (r.take k))++(⟨#[32]⟩:ByteArray))++y∧J8 (C8 x++V8 ao0 (r.take (k+1)))=(J8 (C8 x++V8 ao0 (r.take k))++(⟨#[32]⟩:ByteArray))++y:=by
 have e1:an9 y=[]:=by unfold an9;rw[h];rfl
 have e2:ao0 y=[]:=by unfold ao0;rw[h];rfl
 rw[hy.take,aP6,aP6,e1,e2]
 constructor
 ·apply ah1
  rw[aa5,aa5]
  show C8 x++(V8 an9 (r.take k)++32::([]++C8 y))=(C8 x++V8 an9 (r.take k))++[32]++C8 y
  simp
 ·apply ah1
  rw[aa5,aa5]
  show C8 x++(V8 ao0 (r.take k)++32::([]++C8 y))=(C8 x++V8 ao0 (r.take k))++[32]++C8 y
  simp
end
section
open Go.RowKit
attribute [local go_sem] j4.drew j4.alloc j4.drewN WB.holds Oper.semAt_some Q9 O1 J7
theorem Own.ed4 {H:j5} {base:Nat} {w:World} {e:TypeId} {xs:List ByteArray} (hb:base≤w.heap.size) (hw:j4 H w) (hx:∀x∈xs,x.size≤1000000) (hn:xs.length≤100000) (hn0:0<xs.length):
 Own H base (w.alloc (.cells (xs.map Value.string).toArray e)) e (.slice (some ⟨w.heap.size,0,none⟩) xs.length xs.length) xs:=
 have hE:Enc.sz ByteArray=1:=rfl
 ⟨xs.map Value.string,⟨by simp[hE],.inr ⟨w.heap.size,xs.length,(xs.map Value.string).toArray,rfl,hb,heap_alloc_new w _,fh0 _,by simp[maxLen];omega,by simp[hE],by rw[hE,Nat.mul_one];simp[fg7]⟩⟩,bn7 fun x hx'=>by have:=hx x hx';omega,
  fun k hk=>by simp[Value.ownBlock]at hk;subst hk;exact hw.D6 (fh0 _),by show _*16≤_;omega⟩
def bo1:List ByteArray:=[⟨#[108,105,110,101,32,48,32,105,115,32,115,117,114,101]⟩,⟨#[108,105,110,101,32,48,32,105,115,32,114,101,97,100,115,32,48]⟩,⟨#[108,105,110,101,32,48,32,105,115,32,108,105,110,101,32,48,32,105,115,32,110,111,116]⟩,⟨#[108,105,110,101,32,48,32,105,115]⟩,⟨#[108,105,110,101,32,120,32,105,115,32,110,111,116]⟩,⟨#[97,116,32,48,32,103,97,112,32,49]⟩,⟨#[97,116,32,48,32,97,116,32,48,32,115,117,114,101]⟩,⟨#[114,101,97,100,115]⟩,⟨#[108,105,110,101,32,48,32,110,111,116]⟩]
theorem cW5:∀c∈bo1,A8 c=E9∧c.size≤61:=by decide
theorem At.dx3 {r:List ByteArray} {k:Nat} {y:ByteArray} (h:At r k y):(r.take (k+1)).any aq5=((r.take k).any aq5 || aq5 y):=by rw[h.take,List.any_append];simp
theorem cE0 (vm vb vt um uo ua:Value) (t:D5) (s:ByteArray) (H:j5) (dr:Doors H) (w:World) (hw:j4 H w) (ht:Twn H vm vb vt um uo ua t) (hz0:s.size≤140737488355328):
 Calls Tryz.prog 13 #[ah0 vm vb vt um uo ua t,.string s] w (I1 w (.bool true)):=by
 clear hz0
 have cW:=fun(H':j5) (W:World) (hW:j4 H' W) (hle:D8 H H')=>aO6 H' (dr.mono hle) W hW
 replace cW:=fe6 cW
 have cY:=fun(H':j5) (W:World) (hW:j4 H' W) (hle:D8 H H')=>aA3 vm vb vt um uo ua (.slice none 0 0) t [] H' W hW (ht.mono hle) (Sl.Y9 H')
 cases hr:aF8 t []
 ·rw[hr]at cY
  replace cY:=fe6 cY
  clear hr ht dr
  go_enter Tryz.func13,Tryz.ntmps13
  go_wp2_with(first|((go_at_call 17;go_must (refine(cY.out _ _ hw1 hle).mono ?_);rintro e w2 ⟨rfl,hb2⟩;have x2:=hx.step (hb2.mono hx.below.size) (hw1.below hb2);have hw2:=x2.holds))|(refine uI7 rfl _ rfl (Ext.refl hw) ?_;intro B w1 H1 hle hx hB hBw;obtain⟨hc0,hc1,hc2,hc3,hc4,O8,hc6,O9⟩:=I5 hB;clear hB hw;have hw1:=hx.holds)|((go_at_call 18;refine(cW.out _ _ x2.holds hle).mono ?_;rintro e wz ⟨rfl,hbz⟩;have xz:=x2.step (hbz.mono x2.below.size) (x2.holds.below hbz))))
  go_ret
  exact⟨rfl,xz.below⟩
 rw[hr]at cY
 have R:=aL3.1 hr
 have vt0:=R.v
 replace cY:=fe6 cY
 clear hr R
 by_cases zs:(30:Int)<(s.size:Int)
 ·clear ht dr vt0
  go_enter Tryz.func13,Tryz.ntmps13
  go_wp2_with(first|((go_at_call 17;go_must (refine(cY.out _ _ hw1 hle).mono ?_);rintro e w2 ⟨rfl,hb2⟩;have x2:=hx.step (hb2.mono hx.below.size) (hw1.below hb2);have hw2:=x2.holds))|(refine uI7 rfl _ rfl (Ext.refl hw) ?_;intro B w1 H1 hle hx hB hBw;obtain⟨hc0,hc1,hc2,hc3,hc4,O8,hc6,O9⟩:=I5 hB;clear hB hw;have hw1:=hx.holds)|((go_at_call 18;refine(cW.out _ _ x2.holds hle).mono ?_;rintro e wz ⟨rfl,hbz⟩;have xz:=x2.step (hbz.mono x2.below.size) (x2.holds.below hbz))))
  go_ret
  exact⟨rfl,xz.below⟩
 have zs':s.size≤30:=by omega
 have cK:=fun(H':j5) (W:World) (hW:j4 H' W)=>aI0 s (by omega) H' W hW
 by_cases hk:(A8 s).kind=0
 ·rw[hk]at cK
  replace cK:=fe6 cK
  clear ht dr vt0 hk zs'
  go_enter Tryz.func13,Tryz.ntmps13
  go_wp2_with(first|((go_at_call 16;go_must (refine(cK.out _ _ hw2).mono ?_);rintro e w3 ⟨rfl,hb3⟩;have x3:=x2.step (hb3.mono x2.below.size) (hw2.below hb3);have hw3:=x3.holds))|((go_at_call 17;go_must (refine(cY.out _ _ hw1 hle).mono ?_);rintro e w2 ⟨rfl,hb2⟩;have x2:=hx.step (hb2.mono hx.below.size) (hw1.below hb2);have hw2:=x2.holds))|(refine uI7 rfl _ rfl (Ext.refl hw) ?_;intro B w1 H1 hle hx hB hBw;obtain⟨hc0,hc1,hc2,hc3,hc4,O8,hc6,O9⟩:=I5 hB;clear hB hw;have hw1:=hx.holds)|((go_at_call 18;refine(cW.out _ _ x3.holds hle).mono ?_;rintro e wz ⟨rfl,hbz⟩;have xz:=x3.step (hbz.mono x3.below.size) (x3.holds.below hbz))))
  go_ret
  exact⟨rfl,xz.below⟩
 have cSp:=fun(H':j5) (W:World) (hW:j4 H' W)=>aF7 s (by omega) H' W hW
 obtain⟨x,r,hsp⟩:=aF5 s
 obtain⟨f1,f2,f3,f4⟩:=cO1 hsp hk
 have bW:=fun k=>bH7 hsp zs' aT2 dp3 k
 have bZ:=fun k=>bH7 hsp zs' an9 dp4 k
 have bP:=fun k=>bH7 hsp zs' ao0 dp5 k
 have dx4:∀y∈x::r,y.size≤30:=fun y hy=>by have:=J6 s y (by rw[hsp];exact hy);omega
 have ed5:r.length≤30:=by have:=aw8 s;rw[hsp,ff8]at this;omega
 have hkd:((A8 s).kind==0)=false:=beq_eq_false_iff_ne.2 hk
 obtain⟨P,hP⟩:∃P,C9 s=P:=⟨_,rfl⟩
 rw[hP]at cSp hsp
 have hPl:P.length=r.length+1:=by rw[hsp];rfl
 have hPx:At P 0 x:=by rw[hsp];exact rfl
 have hPr:∀k y,At r k y→At P (k+1) y:=fun k y h=>by rw[hsp];exact h
 have hP0:(0:Int)<(P.length:Int):=by omega
 have ed6:(⟨#[32]⟩:ByteArray)++s=J8 (32::C8 s):=by apply ah1;rw[aa5];rfl
 have ed7:s++(⟨#[32]⟩:ByteArray)=J8 (C8 s++[32]):=by apply ah1;rw[aa5];rfl
 rw[←ed6]at f1
 rw[←ed7]at f2
 have ed8:((⟨#[32]⟩:ByteArray)++s).size≤61:=by rw[ByteArray.size_append];show 1+_≤_;omega
 have ed9:(s++(⟨#[32]⟩:ByteArray)).size≤61:=by rw[ByteArray.size_append];show _+1≤_;omega
 generalize(A8 s).kind=Ks at*
 have cU:=fun(L:List ByteArray) (hc:∀c∈L,A8 c=E9) (hz:∀c∈L,c.size≤61) (hl:L.length≤24) (lv:Value) (H':j5) (W:World) (hW:j4 H' W) (hle:D8 H H') (h2:Sl H' lv L)=>show Calls Tryz.prog 23 #[ah0 vm vb vt um uo ua t,lv] W (Post W H' fun u H''=>∃va vt' vb',u= .tuple #[va,vt',vb',.bool true]∧Sl H'' va (List.replicate L.length ai7)∧bt6 H'' vt' t∧Sl H'' vb' ([]:List ByteArray))from by
  obtain⟨q1,q2,q3⟩:=cz7 vt0 hl hc
  have h:=aD1 vm vb vt um uo ua lv t L vt0 hl (fun c hc'=>by have:=hz c hc';omega) H' (dr.mono hle) W hW (ht.mono hle) h2
  rw[q1,q2,q3]at h
  exact h
 have cB0:∀c∈((⟨#[32]⟩:ByteArray)++s)::(s++(⟨#[32]⟩:ByteArray))::bo1,A8 c=E9∧c.size≤61:=fun c hc=>by
  rcases List.mem_cons.1 hc with h|hc
  ·rw[h];exact⟨f1,ed8⟩
  ·rcases List.mem_cons.1 hc with h|hc
   ·rw[h];exact⟨f2,ed9⟩
   ·exact cW5 c hc
 have cW6:=fun(H':j5) (hle:D8 H H')=>ht.mono hle
 have hs1:¬9223372036854775807<1+s.size:=by omega
 have hs2:¬9223372036854775807<s.size+1:=by omega
 replace cK:=fe6 cK
 replace cSp:=fe6 cSp
 replace cU:=fe6 cU
 replace cB0:=fe6 cB0
 replace cW6:=fe6 cW6
 replace bW:=fe6 bW
 replace bZ:=fe6 bZ
 replace bP:=fe6 bP
 replace f3:=fe6 f3
 replace f4:=fe6 f4
 replace dx4:=fe6 dx4
 replace ed5:=fe6 ed5
 replace hPr:=fe6 hPr
 replace hPl:=fe6 hPl
 clear ht dr vt0 hk zs' hsp f1 f2 ed8 ed9 ed6 ed7 hP
 go_enter Tryz.func13,Tryz.ntmps13
 go_upto_region 4 with(first|(go_at_call 17;go_must (refine(cY.out _ _ hw1 hle).mono ?_);rintro e w2 ⟨rfl,hb2⟩;have x2:=hx.step (hb2.mono hx.below.size) (hw1.below hb2);have hw2:=x2.holds)|(go_at_call 16;go_must (refine(cK.out _ _ hw2).mono ?_);rintro e w3 ⟨rfl,hb3⟩;have x3:=x2.step (hb3.mono x2.below.size) (hw2.below hb3);have hw3:=x3.holds)|(refine uI7 rfl _ rfl (Ext.refl hw) ?_;intro B w1 H1 hle hx hB hBw;obtain⟨hc0,hc1,hc2,hc3,hc4,O8,hc6,O9⟩:=I5 hB;clear hB hw;have hw1:=hx.holds)|(go_at_call 28;go_must (refine(cSp.out _ _ hw3).mono ?_);rintro e w4 ⟨v4,H4,rfl,y4,o4⟩;obtain⟨H5,y5,l5,sP,_⟩:=o4.close y4;obtain⟨aP,cP,rfl,_,_⟩:=sP.form;have x5:=x3.trans y5;have l15:=y5.le hw3))
 have hw5:=x5.holds
 obtain⟨b1,o1,c1,hez,hszz,p1⟩:=sP.str hPx
 cases hez
 (try simp only[fh2]at p1)
 replace hc0:=lift l15 hc0
 replace hc1:=lift l15 hc1
 replace hc2:=lift l15 hc2
 replace hc3:=lift l15 hc3
 replace hc4:=lift l15 hc4
 replace O8:=lift l15 O8
 replace hc6:=lift l15 hc6
 replace O9:=lift l15 O9
 replace hle:=hle.trans l15
 clear x3 y4 y5 o4 l5 hx hw1 hw2 hw3 x2 hb2 hb3 cY cK cSp
 refine E8 H5 (by kernel_rfl) (by kernel_rfl) hw5 (fun hne=> ?_)
 repeat go_big_quiet_step((first|fail))
 refine wpQuiet_nil ?_
 rintro⟨w2,hw2,hb2⟩
 clear hne
 have x6:=x5.step (hb2.mono x5.below.size) (hw5.below hb2)
 have i0:J8 (C8 x++V8 aT2 (r.take 0))=x:=by apply ah1;show C8 x++[]=C8 x;simp
 have i1:J8 (C8 x++V8 an9 (r.take 0))=x:=by apply ah1;show C8 x++[]=C8 x;simp
 have i2:J8 (C8 x++V8 ao0 (r.take 0))=x:=by apply ah1;show C8 x++[]=C8 x;simp
 replace i0:=fe6 i0
 replace i1:=fe6 i1
 replace i2:=fe6 i2
 go_wp2_with fail
 go_loopw [6,7,8,9,10] (fun va vb' vc vd vi wr=>∃(j k:Nat) (A B C:ByteArray) (D:Bool),Hid (j=k+1)∧k≤r.length∧vi= .int .i64 (j:Int)∧va= .string A∧vb'= .string B∧vc= .string C∧vd= .bool D∧Hid (J8 (C8 x++V8 aT2 (r.take k))=A)∧Hid (J8 (C8 x++V8 an9 (r.take k))=B)∧Hid (J8 (C8 x++V8 ao0 (r.take k))=C)∧Hid ((r.take k).any aq5=D)∧Ext w H wr H5) (fun va vb' vc vd vi _=>r.length+2-(intOf vi).toNat)
 case atStart=>exact⟨1,0,x,x,x,false,rfl,fh3 _,rfl,rfl,rfl,rfl,rfl,i0,i1,i2,rfl,x6⟩
 case round=>
  clear x6 x5 hw5 hb2 hw2 i0 i1 i2 p1
  obtain⟨j,k,A,B,C,D,hj,hk,rfl,rfl,rfl,rfl,rfl,hA,hB,hC,hD,E5⟩:=hrel
  have hwr:=E5.holds
  by_cases hlk:k<r.length
  ·obtain⟨y,hy⟩:=At.mk hlk
   have hPy:=hPr.out k y hy
   rw[←hj.out]at hPy
   obtain⟨b2,o2,c2,hez,hszz,p1⟩:=sP.str hPy
   cases hez
   have hy3:=dx4.out y (List.mem_cons_of_mem _ hy.mem)
   have hj0:(0:Int)≤(j:Int):=by omega
   have hj1:(j:Int)<(P.length:Int):=by have:=hj.out;have:=hPl.out;omega
   have bA:=bW.out k
   have bB:=bZ.out k
   have bC:=bP.out k
   rw[hA.out]at bA
   rw[hB.out]at bB
   rw[hC.out]at bC
   have g1:¬9223372036854775807<2+y.size:=by omega
   have g2:¬9223372036854775807<A.size+(2+y.size):=by omega
   have g3:¬9223372036854775807<B.size+2:=by omega
   have g4:¬9223372036854775807<B.size+2+y.size:=by omega
   have g5:¬9223372036854775807<C.size+2:=by omega
   have g6:¬9223372036854775807<C.size+2+y.size:=by omega
   have g7:¬9223372036854775807<B.size+1:=by omega
   have g8:¬9223372036854775807<B.size+1+y.size:=by omega
   have g9:¬9223372036854775807<C.size+1:=by omega
   have gA:¬9223372036854775807<C.size+1+y.size:=by omega
   have nA:=fe6 ((dp6 (x:=x) hy).trans (by rw[hA.out]))
   have hjl:j<r.length+1:=by have:=hj.out;omega
   have hj2:Hid (j+1=k+1+1):=by show _=_;rw[hj.out]
   have hany:=hy.dx3
   rw[hD.out]at hany
   have F5:=aK3 y
   have hyes:=fun h=>dI5 (x:=x) hy h
   have hno:=fun h=>dO4 (x:=x) hy h
   rw[hB.out,hC.out]at hyes hno
   generalize aV7 y=nv at*
   generalize aq5 y=nb at*
   replace F5:=fe6 F5
   replace hany:=fe6 hany
   clear hPy hy hy3 bA bB bC hj hA hB hC hD
   go_upto_region 11 with(go_at_call 45;go_must (refine(F5.out _).mono ?_);rintro e w7 ⟨rfl,hb7⟩)
   have x7:=E5.step (hb7.mono E5.below.size) (hwr.below hb7)
   have hw7:=x7.holds
   clear E5 hwr hb7 F5
   cases nb
   ·obtain⟨q1,q2⟩:=hno rfl
    replace q1:=fe6 q1
    replace q2:=fe6 q2
    clear hno hyes
    go_upto_region 13 with fail
    refine E8 H5 (by kernel_rfl) (by kernel_rfl) hw7 (fun hne=> ?_)
    repeat go_big_quiet_step((first|fail))
    refine wpQuiet_nil ?_
    rintro⟨w2,hw2,hb2⟩
    clear hne
    go_wp2_with fail
    go_roundw
    case rel=>exact⟨j+1,k+1,_,_,_,_,hj2,hlk,by go_num,rfl,rfl,rfl,rfl,nA,q1,q2,fe6 (by rw[hany.out];simp),x7.step (hb2.mono x7.below.size) (hw7.below hb2)⟩
    case measure=>simp[intOf];omega
   ·obtain⟨q1,q2⟩:=hyes rfl
    replace q1:=fe6 q1
    replace q2:=fe6 q2
    clear hno hyes
    go_upto_region 12 with fail
    refine E8 H5 (by kernel_rfl) (by kernel_rfl) hw7 (fun hne=> ?_)
    repeat go_big_quiet_step((first|fail))
    refine wpQuiet_nil ?_
    rintro⟨w2,hw2,hb2⟩
    clear hne
    go_wp2_with fail
    go_roundw
    case rel=>exact⟨j+1,k+1,_,_,_,_,hj2,hlk,by go_num,rfl,rfl,rfl,rfl,nA,q1,q2,fe6 (by rw[hany.out];simp),x7.step (hb2.mono x7.below.size) (hw7.below hb2)⟩
    case measure=>simp[intOf];omega
  ·have hke:k=r.length:=by omega
   rw[hke,List.take_length]at hA hB hC hD
   have hj1:¬(j:Int)<(P.length:Int):=by have:=hj.out;have:=hPl.out;omega
   have zA:=bW.out r.length
   have zB:=bZ.out r.length
   have zC:=bP.out r.length
   rw[List.take_length]at zA zB zC
   rw[hA.out]at zA
   rw[hB.out]at zB
   rw[hC.out]at zC
   have hB0:=cB0
   by_cases hr0:r=[]
   ·have hl1:P.length=1:=by rw[hPl.out,hr0];rfl
    have hD0:D=false:=by rw[←hD.out];exact f4.out hr0
    subst hD0
    have eB0:¬(1:Int)<(P.length:Int):=by omega
    replace hl1:=fe6 hl1
    clear hke hlk hj hk
    go_upto_region 15 with fail
    have o8:=Own.ed4 (e:=9) E5.below.size hwr (xs:=((⟨#[32]⟩:ByteArray)++s)::(s++(⟨#[32]⟩:ByteArray))::bo1) (fun c hc=>by have:=(hB0.out c hc).2;omega) (by show 11≤100000;decide) (by show 0<11;decide)
    have x8:=E5.alloc (.cells #[.string ((⟨#[32]⟩:ByteArray)++s),.string (s++(⟨#[32]⟩:ByteArray)),.string ⟨#[108,105,110,101,32,48,32,105,115,32,115,117,114,101]⟩,.string ⟨#[108,105,110,101,32,48,32,105,115,32,114,101,97,100,115,32,48]⟩,.string ⟨#[108,105,110,101,32,48,32,105,115,32,108,105,110,101,32,48,32,105,115,32,110,111,116]⟩,.string ⟨#[108,105,110,101,32,48,32,105,115]⟩,.string ⟨#[108,105,110,101,32,120,32,105,115,32,110,111,116]⟩,.string ⟨#[97,116,32,48,32,103,97,112,32,49]⟩,.string ⟨#[97,116,32,48,32,97,116,32,48,32,115,117,114,101]⟩,.string ⟨#[114,101,97,100,115]⟩,.string ⟨#[108,105,110,101,32,48,32,110,111,116]⟩] 9)
    replace o8:Own H5 w.heap.size (wr.alloc (.cells #[.string ((⟨#[32]⟩:ByteArray)++s),.string (s++(⟨#[32]⟩:ByteArray)),.string ⟨#[108,105,110,101,32,48,32,105,115,32,115,117,114,101]⟩,.string ⟨#[108,105,110,101,32,48,32,105,115,32,114,101,97,100,115,32,48]⟩,.string ⟨#[108,105,110,101,32,48,32,105,115,32,108,105,110,101,32,48,32,105,115,32,110,111,116]⟩,.string ⟨#[108,105,110,101,32,48,32,105,115]⟩,.string ⟨#[108,105,110,101,32,120,32,105,115,32,110,111,116]⟩,.string ⟨#[97,116,32,48,32,103,97,112,32,49]⟩,.string ⟨#[97,116,32,48,32,97,116,32,48,32,115,117,114,101]⟩,.string ⟨#[114,101,97,100,115]⟩,.string ⟨#[108,105,110,101,32,48,32,110,111,116]⟩] 9)) 9 (.slice (some ⟨wr.heap.size,0,none⟩) 11 11) (((⟨#[32]⟩:ByteArray)++s)::(s++(⟨#[32]⟩:ByteArray))::bo1):=o8
    generalize wr.alloc (.cells #[.string ((⟨#[32]⟩:ByteArray)++s),.string (s++(⟨#[32]⟩:ByteArray)),.string ⟨#[108,105,110,101,32,48,32,105,115,32,115,117,114,101]⟩,.string ⟨#[108,105,110,101,32,48,32,105,115,32,114,101,97,100,115,32,48]⟩,.string ⟨#[108,105,110,101,32,48,32,105,115,32,108,105,110,101,32,48,32,105,115,32,110,111,116]⟩,.string ⟨#[108,105,110,101,32,48,32,105,115]⟩,.string ⟨#[108,105,110,101,32,120,32,105,115,32,110,111,116]⟩,.string ⟨#[97,116,32,48,32,103,97,112,32,49]⟩,.string ⟨#[97,116,32,48,32,97,116,32,48,32,115,117,114,101]⟩,.string ⟨#[114,101,97,100,115]⟩,.string ⟨#[108,105,110,101,32,48,32,110,111,116]⟩] 9)=w8 at*
    generalize wr.heap.size=g8 at*
    have hw8:=x8.holds
    clear E5 hwr
    obtain⟨H9,x9,l9,s9,_⟩:=o8.close x8
    have hw9:=x9.holds
    have hcl:=fe6 (fun c hc=>(cB0.out c hc).1)
    have hcz:=fe6 (fun c hc=>(cB0.out c hc).2)
    obtain⟨LL,hLL⟩:∃LL,((⟨#[32]⟩:ByteArray)++s)::(s++(⟨#[32]⟩:ByteArray))::bo1=LL:=⟨_,rfl⟩
    rw[hLL]at s9 hcl hcz
    have hLn:LL.length=11:=by rw[←hLL];rfl
    have bo2:LL.length≤24:=by omega
    replace bo2:=fe6 bo2
    replace hLn:=fe6 hLn
    clear o8 x8 hLL cB0 hB0 zA zB zC hr0
    replace hc0:=lift l9 hc0
    replace hc1:=lift l9 hc1
    replace hc2:=lift l9 hc2
    replace hc3:=lift l9 hc3
    replace hc4:=lift l9 hc4
    replace O8:=lift l9 O8
    replace hc6:=lift l9 hc6
    replace O9:=lift l9 O9
    go_upto_region 20 with(go_at_call 23;go_must (refine(cU.out LL hcl.out hcz.out bo2.out _ _ _ hw9 (hle.trans l9) s9).mono ?_);rintro e w13 ⟨_,HA,rfl,yA,va,vt',vk,rfl,sA,⟨xm,xb,xt,xp,xq,xr,rfl,twA⟩,sK⟩;obtain⟨pA,qA,rfl,_,_⟩:=sA.form;obtain⟨pK,qK,rfl,_,_⟩:=sK.form;obtain⟨p0,pq0,rfl,_,_⟩:=twA.h.m.form;obtain⟨p1,pq1,rfl,_,_⟩:=twA.h.b.form;obtain⟨p2,pq2,rfl,_,_⟩:=twA.h.t.form;obtain⟨p3,pq3,rfl,_,_⟩:=twA.s.m.form;obtain⟨p4,pq4,rfl,_,_⟩:=twA.s.o.form;obtain⟨p5,pq5,rfl,_,_⟩:=twA.s.a.form;have xA:=x9.trans yA)
    have hn_:HA (World.heap w13).size=none:=(xA).holds.D6 (fh0 _)
    have xB:=((xA).alloc (.cells #[.slice p0 t.h.ms.length pq0,.slice p1 t.h.bs.length pq1,.slice p2 t.h.ts.length pq2,.int .i64 t.h.ch,.slice p3 t.s.mo.length pq3,.slice p4 t.s.wo.length pq4,.slice p5 t.s.wa.length pq5,.int .i64 t.s.fr] 32)).freeze (xA).below.size (heap_alloc_new w13 _)
    have lB:=j5.L9 hn_ (.cells #[.slice p0 t.h.ms.length pq0,.slice p1 t.h.bs.length pq1,.slice p2 t.h.ts.length pq2,.int .i64 t.h.ch,.slice p3 t.s.mo.length pq3,.slice p4 t.s.wo.length pq4,.slice p5 t.s.wa.length pq5,.int .i64 t.s.fr] 32 (0,0))
    have cx1:=j5.G7 HA (World.heap w13).size (.cells #[.slice p0 t.h.ms.length pq0,.slice p1 t.h.bs.length pq1,.slice p2 t.h.ts.length pq2,.int .i64 t.h.ch,.slice p3 t.s.mo.length pq3,.slice p4 t.s.wo.length pq4,.slice p5 t.s.wa.length pq5,.int .i64 t.s.fr] 32 (0,0))
    clear hn_
    generalize j5.put HA (World.heap w13).size (.cells #[.slice p0 t.h.ms.length pq0,.slice p1 t.h.bs.length pq1,.slice p2 t.h.ts.length pq2,.int .i64 t.h.ch,.slice p3 t.s.mo.length pq3,.slice p4 t.s.wo.length pq4,.slice p5 t.s.wa.length pq5,.int .i64 t.s.fr] 32 (0,0))=HB at*
    generalize World.alloc w13 (.cells #[.slice p0 t.h.ms.length pq0,.slice p1 t.h.bs.length pq1,.slice p2 t.h.ts.length pq2,.int .i64 t.h.ch,.slice p3 t.s.mo.length pq3,.slice p4 t.s.wo.length pq4,.slice p5 t.s.wa.length pq5,.int .i64 t.s.fr] 32)=w14 at*
    generalize(World.heap w13).size=CT at*
    have l9B:D8 H9 HB:=(yA.le hw9).trans lB
    replace sA:=sA.mono lB
    have twB:=twA.mono lB
    obtain⟨d0,d1,d2,d3,d4,d5,d6,d7⟩:=I5 (t:=t) cx1
    replace hc0:=lift l9B hc0
    replace hc1:=lift l9B hc1
    replace hc2:=lift l9B hc2
    replace hc3:=lift l9B hc3
    replace hc4:=lift l9B hc4
    replace O8:=lift l9B O8
    replace hc6:=lift l9B hc6
    replace O9:=lift l9B O9
    replace hle:=hle.trans (l9.trans l9B)
    have cA:=fun(W:World) (hW:j4 HB W)=>aU4 _ _ _ _ _ _ _ _ _ _ _ _ t HB W hW twB (cW6.out HB hle)
    replace cA:=fe6 cA
    have hwB:=xB.holds
    have hLO:(List.replicate LL.length ai7).length=LL.length:=List.length_replicate
    clear xA yA twA twB cx1 lB s9 sK cU hcl hcz bo2 l9 l9B
    go_upto_region 22 with(go_at_call 24;go_must (refine(cA.out _ hwB).mono ?_);rintro e w15 ⟨rfl,bJ3⟩)
    have xC:=xB.step (bJ3.mono xB.below.size) (hwB.below bJ3)
    have hwh:=G8 (a:=ai7) (l:=[119,104,97,116]) rfl
    clear xB hwB bJ3 cA
    go_wp2_with fail
    go_loopw [18] (fun i wr=>∃k:Nat,k≤LL.length∧i= .int .i64 (k:Int)∧Ext w H wr HB) (fun i _=>LL.length-(intOf i).toNat)
    case atStart=>exact⟨0,fh3 _,rfl,xC⟩
    case round=>
     clear xC
     obtain⟨k,hk,rfl,E5⟩:=hrel
     have hwr:=E5.holds
     have hk0:(0:Int)≤(k:Int):=by omega
     by_cases hlk:k<LL.length
     ·have hz:At (List.replicate LL.length ai7) k ai7:=by unfold At;rw[List.getElem?_replicate,if_pos hlk]
      obtain⟨b1,o1,c1,hez,hszz,p1⟩:=sA.str hz
      cases hez
      have hk1:(k:Int)<(LL.length:Int):=by omega
      clear hz hszz
      go_wp2_with fail
      go_roundw
      case rel=>exact⟨k+1,by omega,by go_num,E5⟩
      case measure=>simp[intOf];omega
     ·have hk1:¬(k:Int)<(LL.length:Int):=by omega
      go_wp2_with(go_at_call 18;refine(cW.out _ _ E5.holds hle).mono ?_;rintro e wz ⟨rfl,hbz⟩;have xz:=E5.step (hbz.mono E5.below.size) (E5.holds.below hbz))
      go_ret
      exact⟨rfl,xz.below⟩
   ·have hD1:D=true:=by rw[←hD.out];exact(f3.out hr0).2.2.2
    subst hD1
    obtain⟨h1,h2,h3,_⟩:=f3.out hr0
    rw[hA.out]at h1
    rw[hB.out]at h2
    rw[hC.out]at h3
    have eB0:(1:Int)<(P.length:Int):=by have:=hPl.out;have:r.length≠0:=fun e=>hr0 (List.eq_nil_of_length_eq_zero e);omega
    clear hke hlk hj hk hr0
    go_upto_region 15 with fail
    have o8:=Own.ed4 (e:=9) E5.below.size hwr (xs:=((⟨#[32]⟩:ByteArray)++s)::(s++(⟨#[32]⟩:ByteArray))::bo1) (fun c hc=>by have:=(hB0.out c hc).2;omega) (by show 11≤100000;decide) (by show 0<11;decide)
    have x8:=E5.alloc (.cells #[.string ((⟨#[32]⟩:ByteArray)++s),.string (s++(⟨#[32]⟩:ByteArray)),.string ⟨#[108,105,110,101,32,48,32,105,115,32,115,117,114,101]⟩,.string ⟨#[108,105,110,101,32,48,32,105,115,32,114,101,97,100,115,32,48]⟩,.string ⟨#[108,105,110,101,32,48,32,105,115,32,108,105,110,101,32,48,32,105,115,32,110,111,116]⟩,.string ⟨#[108,105,110,101,32,48,32,105,115]⟩,.string ⟨#[108,105,110,101,32,120,32,105,115,32,110,111,116]⟩,.string ⟨#[97,116,32,48,32,103,97,112,32,49]⟩,.string ⟨#[97,116,32,48,32,97,116,32,48,32,115,117,114,101]⟩,.string ⟨#[114,101,97,100,115]⟩,.string ⟨#[108,105,110,101,32,48,32,110,111,116]⟩] 9)
    replace o8:Own H5 w.heap.size (wr.alloc (.cells #[.string ((⟨#[32]⟩:ByteArray)++s),.string (s++(⟨#[32]⟩:ByteArray)),.string ⟨#[108,105,110,101,32,48,32,105,115,32,115,117,114,101]⟩,.string ⟨#[108,105,110,101,32,48,32,105,115,32,114,101,97,100,115,32,48]⟩,.string ⟨#[108,105,110,101,32,48,32,105,115,32,108,105,110,101,32,48,32,105,115,32,110,111,116]⟩,.string ⟨#[108,105,110,101,32,48,32,105,115]⟩,.string ⟨#[108,105,110,101,32,120,32,105,115,32,110,111,116]⟩,.string ⟨#[97,116,32,48,32,103,97,112,32,49]⟩,.string ⟨#[97,116,32,48,32,97,116,32,48,32,115,117,114,101]⟩,.string ⟨#[114,101,97,100,115]⟩,.string ⟨#[108,105,110,101,32,48,32,110,111,116]⟩] 9)) 9 (.slice (some ⟨wr.heap.size,0,none⟩) 11 11) (((⟨#[32]⟩:ByteArray)++s)::(s++(⟨#[32]⟩:ByteArray))::bo1):=o8
    generalize wr.alloc (.cells #[.string ((⟨#[32]⟩:ByteArray)++s),.string (s++(⟨#[32]⟩:ByteArray)),.string ⟨#[108,105,110,101,32,48,32,105,115,32,115,117,114,101]⟩,.string ⟨#[108,105,110,101,32,48,32,105,115,32,114,101,97,100,115,32,48]⟩,.string ⟨#[108,105,110,101,32,48,32,105,115,32,108,105,110,101,32,48,32,105,115,32,110,111,116]⟩,.string ⟨#[108,105,110,101,32,48,32,105,115]⟩,.string ⟨#[108,105,110,101,32,120,32,105,115,32,110,111,116]⟩,.string ⟨#[97,116,32,48,32,103,97,112,32,49]⟩,.string ⟨#[97,116,32,48,32,97,116,32,48,32,115,117,114,101]⟩,.string ⟨#[114,101,97,100,115]⟩,.string ⟨#[108,105,110,101,32,48,32,110,111,116]⟩] 9)=w8 at*
    generalize wr.heap.size=g8 at*
    have hw8:=x8.holds
    clear E5 hwr
    have hL0:(((⟨#[32]⟩:ByteArray)++s)::(s++(⟨#[32]⟩:ByteArray))::bo1).length=11:=rfl
    obtain⟨L0,ee2⟩:∃L0,((⟨#[32]⟩:ByteArray)++s)::(s++(⟨#[32]⟩:ByteArray))::bo1=L0:=⟨_,rfl⟩
    rw[ee2]at o8 hB0 hL0
    have hb1:Hid ((L0.length+1)*Enc.M4 ByteArray≤140737488355328):=by show _*16≤_;omega
    have hb2:Hid (L0.length+1≤9223372036854775807):=by show _≤_;omega
    have hrA:Hid (A.size≤140737488355328):=by show _≤_;omega
    have hbx:w.heap.size≤w8.heap.size:=x8.below.size
    have hmk:Hid True:=fe6 trivial
    clear ee2 cB0
    go_upto_region 17 with(at_builtin;go_must (refine au7 (c:=1) (cs:=[.string A]) bi0 rfl _ _ rfl rfl o8 rfl (show Enc.rep H5 A [.string A]from⟨rfl,hrA.out⟩) hw8 hb1.out hb2.out hbx ?_);intro v9 w9 o9 g9 hw9 _)
    have x9:=(x8.alloc (.cells #[.string A] 9)).grown g9 (fun q e=>(o8.lt q e).1) o8.free
    have dx5:(L0++[A]).length=12:=by rw[ff4,hL0];rfl
    have hB1:∀c∈L0++[A],A8 c=E9∧c.size≤61:=fun c hc=>by
     rcases List.mem_append.1 hc with h|h
     ·exact hB0.out c h
     ·rw[List.mem_singleton.1 h];exact⟨h1,zA⟩
    generalize L0++[A]=L1 at*
    obtain⟨p9,q9,rfl,_,_⟩:=o9.form
    have hLL:L1++[B,C]=L1++[B,C]:=rfl
    have hB2:∀c∈L1++[B,C],A8 c=E9∧c.size≤61:=fun c hc=>by
     rcases List.mem_append.1 hc with h|h
     ·exact hB1 c h
     ·simp at h
      rcases h with h|h
      ·rw[h];exact⟨h2,zB⟩
      ·rw[h];exact⟨h3,zC⟩
    obtain⟨HL,lL,xL,sL⟩:=aN5 (Ext.refl hw9) [B,C] (fun c hc=>by simp at hc;rcases hc with h|h<;>(rw[h];omega)) (by simp)
    have oL:=o9.ext hw9 xL
    have x10:=x9.trans xL
    have hc16:Hid ((L1.length+[B,C].length)*Enc.M4 ByteArray≤140737488355328):=by show(_+2)*16≤_;omega
    have hc63:Hid (L1.length+[B,C].length≤9223372036854775807):=by show _+2≤_;omega
    have dx6:(L1++[B,C]).length=14:=by rw[ff4,dx5];rfl
    have l5L:=lL
    replace hB2:=fe6 hB2
    replace dx6:=fe6 dx6
    replace dx5:=fe6 dx5
    clear hB1 hB0 h1 h2 h3 zA zB zC o8 x8 hw8 g9 hb1 hb2 hrA hbx hLL o9 hL0
    go_upto_region 19 with(at_builtin;go_must (refine aj2 (w0:=w) (H0:=H) bi0 rfl _ _ rfl x10 rfl oL rfl sL hc16.out hc63.out ?_);intro v11 w11 o11 x11 dZ9 _)
    generalize L1++[B,C]=LL at*
    obtain⟨H9,x9',l9',s9,_⟩:=o11.close x11
    obtain⟨p11,q11,rfl,_,_⟩:=s9.form
    have l9:D8 H5 H9:=lL.trans l9'
    have cV9:=x9'.holds
    have hcl:=fe6 (fun c hc=>(hB2.out c hc).1)
    have hcz:=fe6 (fun c hc=>(hB2.out c hc).2)
    have bo2:LL.length≤24:=by have:=dx6.out;omega
    replace bo2:=fe6 bo2
    clear o11 x11 dZ9 x10 oL xL sL hw9 x9 hB2 lL l9' hc16 hc63 l5L hmk
    replace hc0:=lift l9 hc0
    replace hc1:=lift l9 hc1
    replace hc2:=lift l9 hc2
    replace hc3:=lift l9 hc3
    replace hc4:=lift l9 hc4
    replace O8:=lift l9 O8
    replace hc6:=lift l9 hc6
    replace O9:=lift l9 O9
    go_upto_region 20 with(go_at_call 23;go_must (refine(cU.out LL hcl.out hcz.out bo2.out _ _ _ cV9 (hle.trans l9) s9).mono ?_);rintro e w13 ⟨_,HA,rfl,yA,va,vt',vk,rfl,sA,⟨xm,xb,xt,xp,xq,xr,rfl,twA⟩,sK⟩;obtain⟨pA,qA,rfl,_,_⟩:=sA.form;obtain⟨pK,qK,rfl,_,_⟩:=sK.form;obtain⟨p0,pq0,rfl,_,_⟩:=twA.h.m.form;obtain⟨p1,pq1,rfl,_,_⟩:=twA.h.b.form;obtain⟨p2,pq2,rfl,_,_⟩:=twA.h.t.form;obtain⟨p3,pq3,rfl,_,_⟩:=twA.s.m.form;obtain⟨p4,pq4,rfl,_,_⟩:=twA.s.o.form;obtain⟨p5,pq5,rfl,_,_⟩:=twA.s.a.form;have xA:=x9'.trans yA)
    have hn_:HA (World.heap w13).size=none:=(xA).holds.D6 (fh0 _)
    have xB:=((xA).alloc (.cells #[.slice p0 t.h.ms.length pq0,.slice p1 t.h.bs.length pq1,.slice p2 t.h.ts.length pq2,.int .i64 t.h.ch,.slice p3 t.s.mo.length pq3,.slice p4 t.s.wo.length pq4,.slice p5 t.s.wa.length pq5,.int .i64 t.s.fr] 32)).freeze (xA).below.size (heap_alloc_new w13 _)
    have lB:=j5.L9 hn_ (.cells #[.slice p0 t.h.ms.length pq0,.slice p1 t.h.bs.length pq1,.slice p2 t.h.ts.length pq2,.int .i64 t.h.ch,.slice p3 t.s.mo.length pq3,.slice p4 t.s.wo.length pq4,.slice p5 t.s.wa.length pq5,.int .i64 t.s.fr] 32 (0,0))
    have cx1:=j5.G7 HA (World.heap w13).size (.cells #[.slice p0 t.h.ms.length pq0,.slice p1 t.h.bs.length pq1,.slice p2 t.h.ts.length pq2,.int .i64 t.h.ch,.slice p3 t.s.mo.length pq3,.slice p4 t.s.wo.length pq4,.slice p5 t.s.wa.length pq5,.int .i64 t.s.fr] 32 (0,0))
    clear hn_
    generalize j5.put HA (World.heap w13).size (.cells #[.slice p0 t.h.ms.length pq0,.slice p1 t.h.bs.length pq1,.slice p2 t.h.ts.length pq2,.int .i64 t.h.ch,.slice p3 t.s.mo.length pq3,.slice p4 t.s.wo.length pq4,.slice p5 t.s.wa.length pq5,.int .i64 t.s.fr] 32 (0,0))=HB at*
    generalize World.alloc w13 (.cells #[.slice p0 t.h.ms.length pq0,.slice p1 t.h.bs.length pq1,.slice p2 t.h.ts.length pq2,.int .i64 t.h.ch,.slice p3 t.s.mo.length pq3,.slice p4 t.s.wo.length pq4,.slice p5 t.s.wa.length pq5,.int .i64 t.s.fr] 32)=w14 at*
    generalize(World.heap w13).size=CT at*
    have l9B:D8 H9 HB:=(yA.le cV9).trans lB
    replace sA:=sA.mono lB
    have twB:=twA.mono lB
    obtain⟨d0,d1,d2,d3,d4,d5,d6,d7⟩:=I5 (t:=t) cx1
    replace hc0:=lift l9B hc0
    replace hc1:=lift l9B hc1
    replace hc2:=lift l9B hc2
    replace hc3:=lift l9B hc3
    replace hc4:=lift l9B hc4
    replace O8:=lift l9B O8
    replace hc6:=lift l9B hc6
    replace O9:=lift l9B O9
    replace hle:=hle.trans (l9.trans l9B)
    have cA:=fun(W:World) (hW:j4 HB W)=>aU4 _ _ _ _ _ _ _ _ _ _ _ _ t HB W hW twB (cW6.out HB hle)
    replace cA:=fe6 cA
    have hwB:=xB.holds
    have hLO:(List.replicate LL.length ai7).length=LL.length:=List.length_replicate
    clear xA yA twA twB cx1 lB s9 sK cU hcl hcz bo2 l9 l9B
    go_upto_region 22 with(go_at_call 24;go_must (refine(cA.out _ hwB).mono ?_);rintro e w15 ⟨rfl,bJ3⟩)
    have xC:=xB.step (bJ3.mono xB.below.size) (hwB.below bJ3)
    have hwh:=G8 (a:=ai7) (l:=[119,104,97,116]) rfl
    clear xB hwB bJ3 cA
    go_wp2_with fail
    go_loopw [18] (fun i wr=>∃k:Nat,k≤LL.length∧i= .int .i64 (k:Int)∧Ext w H wr HB) (fun i _=>LL.length-(intOf i).toNat)
    case atStart=>exact⟨0,fh3 _,rfl,xC⟩
    case round=>
     clear xC
     obtain⟨k,hk,rfl,E5⟩:=hrel
     have hwr:=E5.holds
     have hk0:(0:Int)≤(k:Int):=by omega
     by_cases hlk:k<LL.length
     ·have hz:At (List.replicate LL.length ai7) k ai7:=by unfold At;rw[List.getElem?_replicate,if_pos hlk]
      obtain⟨b1,o1,c1,hez,hszz,p1⟩:=sA.str hz
      cases hez
      have hk1:(k:Int)<(LL.length:Int):=by omega
      clear hz hszz
      go_wp2_with fail
      go_roundw
      case rel=>exact⟨k+1,by omega,by go_num,E5⟩
      case measure=>simp[intOf];omega
     ·have hk1:¬(k:Int)<(LL.length:Int):=by omega
      go_wp2_with(go_at_call 18;refine(cW.out _ _ E5.holds hle).mono ?_;rintro e wz ⟨rfl,hbz⟩;have xz:=E5.step (hbz.mono E5.below.size) (E5.holds.below hbz))
      go_ret
      exact⟨rfl,xz.below⟩
end
end Go.Proofs.YtbliehinagkldaaGreatDoor
