/- Lemmas and walks on which the claims of this seat lean (names and blanks made short by a program): ONumP OKey ORef12a ORef12b OCut OOpnO OUpt OOpnP Iter2 OHdIn It2. -/
import Derived.Test.YtbliehinagkldaaGreatDoorG01
import Derived.Test.YtbliehinagkldaaGreatDoorG02
import Derived.Test.YtbliehinagkldaaGreatDoorG03
import Derived.Lib.Strings
import Derived.Lib.AtoiBound
import Derived.Lib.Join
import Derived.Lib.Split
import Derived.Lib.SplitLaws
import Derived.Lib.CountLaws
import Derived.Lib.CutLaws
import Derived.StillTail
import Derived.OrdersIn
import Derived.RangeFuncCalls
import Derived.RangeFuncNested
import Derived.RangeFuncBound
import Derived.RangeFuncLeaves
import Derived.Shelf.Abstract
import Derived.Shelf.RegionOpen
import Derived.OwnWalkIn
import Derived.TacticsInMore
import Derived.LoopNIn
import Derived.LoopIn
import Derived.Laws.EntriesVeiled

set_option linter.all false
set_option maxRecDepth 100000
set_option maxHeartbeats 16000000
open Go.Lib renaming hid → fe6
open List renaming getD_eq_getElem?_getD → ff3, length_append → ff4, drop_succ_cons → ff5, drop_zero → ff6, length_singleton → ff7, length_cons → ff8, nil_append → ff9, getElem?_eq_getElem → fg0, length_nil → fg1, cons_append → fg2, push_toArray → fg3, length_take → fg6, take_of_length_le → fg7
open Array renaming replicate_zero → fg8, replicate_succ → fg9
open Nat renaming le_refl → fh0, le_trans → fh1, add_zero → fh2, zero_le → fh3, lt_of_lt_of_le → fh4, reduceAdd → fh6, reduceSub → fh7
open Int renaming toNat_natCast → fh8
open Bool renaming and_eq_true → fh9
namespace Go.Proofs.YtbliehinagkldaaGreatDoor
section
theorem bE0:∀(l:List UInt8) (acc:Nat),l.all W9=true→Lib.decFrom acc l=some (l.foldl (fun n b=>n*10+(b.toNat-48)) acc)
 |[],_,_=>rfl
 |b::l,acc,h=>by
  rw[List.all_cons,fh9]at h
  have hb:=ah8.1 h.1
  unfold Lib.decFrom Lib.digitVal
  rw[if_pos hb]
  exact bE0 l _ h.2
theorem bL5 {l:List UInt8} (h:l.all W9=true) (hn:l≠[]):Lib.decNat l=some (aq4 l):=by
 unfold Lib.decNat
 have:l.isEmpty=false:=by cases l with|nil=>exact absurd rfl hn|cons a l=>rfl
 rw[this]
 exact bE0 l 0 h
theorem do9 {w:ByteArray} {v:Int} (h:O5 w=some v):Lib.atoiAll (C8 w)= .ok v∧K8 v∧(C8 w).length≤7:=by
 have key:Lib.atoi (C8 w)=some v∧(C8 w).length≤7:=by
  unfold O5 at h
  split at h
  ·rename_i r hr
   obtain⟨h1,h2,h3,h4,h5,h6⟩:=aB6 h
   rw[hr]
   refine⟨?_,by rw[ff8];omega⟩
   show(Lib.decNat r).map _=_
   rw[bL5 h1 h2]
   exact congrArg some h6.symm
  ·rename_i hno
   obtain⟨h1,h2,h3,h4,h5,h6⟩:=aB6 h
   refine⟨?_,by omega⟩
   cases hb:C8 w with
   |nil=>exact absurd hb h2
   |cons b r=>
    have e45:(b==45)=false:=by rw[beq_eq_false_iff_ne];intro e;rw[e]at hb;exact hno r hb
    have e43:(b==43)=false:=by
     rw[beq_eq_false_iff_ne]
     intro e
     rw[hb,e,List.all_cons]at h1
     have:W9 43=false:=by decide
     rw[this]at h1;cases h1
    unfold Lib.atoi
    simp only[e45,e43,Bool.false_eq_true,if_false]
    rw[←hb,bL5 h1 h2]
    exact congrArg some h6.symm
 have hs:=Lib.atoiAll_short (C8 w) (by omega)
 rw[key.1]at hs
 have hb:=Lib.atoi_bound key.1 (by omega)
 exact⟨hs,⟨by omega,by omega⟩,key.2⟩
theorem cN4 (l:List UInt8):Lib.trimPrefix l [45]=ar2 l:=by
 unfold Lib.trimPrefix ar2
 cases l with
 |nil=>rfl
 |cons b r=>
  by_cases h:b=45
  ·subst h;rfl
  ·have:Lib.hasPrefix (b::r) [45]=false:=by
    cases hh:Lib.hasPrefix (b::r) [45]with
    |false=>rfl
    |true=>
     exfalso
     simp[Lib.hasPrefix]at hh
     first|exact h hh.symm|exact h hh
   rw[this]
   simp only[Bool.false_eq_true,if_false]
   split
   ·rename_i h2;exact absurd (List.cons.inj h2).1 h
   ·rfl
inductive dO1 (w:ByteArray):Prop
 |num (v:Int) (h:O5 w=some v) (ha:Lib.atoiAll (C8 w)= .ok v) (hi:K8 v) (ht:G6 v=w) (h6:(ar2 (C8 w)).length≤6)
 |syn (h:O5 w=none) (ha:Lib.atoiAll (C8 w)=Lib.NumEnd.syntax)
 |rng (h:O5 w=none) (ha:Lib.atoiAll (C8 w)= .range)
 |oth (v:Int) (h:O5 w=none) (ha:Lib.atoiAll (C8 w)= .ok v) (hi:K8 v) (ht:G6 v≠w)
 |lng (v:Int) (h:O5 w=none) (ha:Lib.atoiAll (C8 w)= .ok v) (hi:K8 v) (ht:G6 v=w) (h6:6<(ar2 (C8 w)).length)
theorem dH8 (w:ByteArray):dO1 w:=by
 cases h:O5 w with
 |some v=>
  obtain⟨h1,h2,_⟩:=do9 h
  obtain⟨h3,h4⟩:=dn8 h
  exact .num v h h1 h2 (by unfold G6;rw[←h3];rfl) h4
 |none=>
  cases ha:Lib.atoiAll (C8 w)with
  |range=>exact .rng h ha
  |ok v=>
   have hb:=Lib.atoiAll_bounds ha
   have hi:K8 v:=⟨by omega,by omega⟩
   by_cases ht:G6 v=w
   ·by_cases h6:(ar2 (C8 w)).length≤6
    ·have hbw:C8 w=Lib.itoa v:=by rw[←ht];rfl
     rw[cm3 hbw h6]at h;cases h
    ·exact .lng v h ha hi ht (by omega)
   ·exact .oth v h ha hi ht
  |_=>exact .syn h ha
theorem bL6:∀(l:List ByteArray) (w:ByteArray),T9 (l++[w])=match T9 l,O5 w with|some ns,some n=>some (ns++[n])|_,_=>none
 |[],w=>by
  show(match O5 w,some []with|some n,some r=>some (n::r)|_,_=>none)=_
  cases O5 w<;>rfl
 |x::l,w=>by
  show(match O5 x,T9 (l++[w])with|some n,some r=>some (n::r)|_,_=>none)=_
  rw[bL6 l w]
  show _=match (match O5 x,T9 l with|some n,some r=>some (n::r)|_,_=>none),O5 w with|some ns,some n=>some (ns++[n])|_,_=>none
  cases O5 x<;>cases T9 l<;>cases O5 w<;>rfl
theorem aP5 {l:List ByteArray} {k:Nat} {w:ByteArray} (hw:At l k w) (h:O5 w=none):T9 l=none:=by
 have hm:=hw.mem
 clear hw
 induction l with
 |nil=>cases hm
 |cons x l ih=>
  show(match O5 x,T9 l with|some n,some r=>some (n::r)|_,_=>none)=none
  rcases List.mem_cons.1 hm with rfl|hm
  ·rw[h]
  ·rw[ih hm];cases O5 x<;>rfl
theorem bL7 {l:List ByteArray} {k:Nat} {w:ByteArray} {ns:List Int} {v:Int} (hw:At l k w) (hn:T9 (l.take k)=some ns) (h:O5 w=some v):T9 (l.take (k+1))=some (ns++[v]):=by
 rw[hw.take,bL6,hn,h]
theorem ax2:∀{l:List ByteArray} {ns:List Int},T9 l=some ns→(∀n∈ns,K8 n∧-1000000<n∧n<1000000)∧ns.length=l.length
 |[],ns,h=>by cases h;exact⟨fun n hn=>(by cases hn),rfl⟩
 |x::l,ns,h=>by
  have h2:(match O5 x,T9 l with|some n,some r=>some (n::r)|_,_=>none)=some ns:=h
  split at h2
  ·rename_i n r h3 h4
   cases h2
   obtain⟨k1,k2⟩:=ax2 h4
   refine⟨fun m hm=> ?_,by rw[ff8,ff8,k2]⟩
   rcases List.mem_cons.1 hm with rfl|hm
   ·have hv: -1000000<m∧m<1000000:=by
     have hval:∀r:List UInt8,r.all W9=true→r.length≤6→aq4 r<1000000:=fun r hr hl=>by
      have key:∀q:List UInt8,q.all W9=true→aq4 q<10 ^ q.length:=ad1 (fun _=>by decide) fun q b ih hq=>by
       rw[List.all_append,fh9]at hq
       have hb:=ah8.1 (by simpa using hq.2:W9 b=true)
       have:=ih hq.1
       rw[aP3,ff4,ff7,Nat.pow_succ]
       omega
      exact fh4 (key r hr) (Nat.pow_le_pow_right (by decide) hl)
     unfold O5 at h3
     split at h3
     ·obtain⟨g1,_,g3,_,_,g6⟩:=aB6 h3
      have:=hval _ g1 g3
      have e:m= -(aq4 _:Int):=g6
      omega
     ·obtain⟨g1,_,g3,_,_,g6⟩:=aB6 h3
      have:=hval _ g1 g3
      have e:m=(aq4 _:Int):=g6
      omega
    exact⟨⟨by omega,by omega⟩,hv⟩
   ·exact k1 m hm
  ·cases h2
end
section
def aD6 (l:List UInt8):List UInt8:=l.reverse.takeWhile W9
theorem bE1 {s D:List UInt8} (h:D.all W9=true):aD6 (s++D)=D.reverse++aD6 s:=by
 unfold aD6
 rw[List.reverse_append]
 have hr:∀x∈D.reverse,W9 x=true:=fun x hx=>List.all_eq_true.1 h x (List.mem_reverse.1 hx)
 exact List.takeWhile_append_of_pos hr
theorem dH9 {s w D E:List UInt8} (hD:D.all W9=true) (hE:E.all W9=true) (hw:aD6 w=[]) (hD1:D≠[]) (hE1:E.length=1):s++D=w++E↔s=w∧D=E:=by
 constructor
 ·intro h
  have h1:=congrArg aD6 h
  rw[bE1 hD,bE1 hE,hw,List.append_nil]at h1
  have h2:=congrArg List.length h1
  rw[ff4,List.length_reverse,List.length_reverse,hE1]at h2
  have hd:1≤D.length:=List.length_pos_iff.2 hD1
  have h3:=congrArg List.length h
  rw[ff4,ff4,hE1]at h3
  exact List.append_inj h (by omega)
 ·rintro⟨rfl,rfl⟩;rfl
theorem ay2 (n:Nat):Lib.itoa (n:Int)=Lib.decDigits n:=by
 unfold Lib.itoa
 rw[if_neg (by omega),fh8]
def bu0 (s:ByteArray) (n:Nat):ByteArray:=s++G6 (n:Int)
theorem aa5 (a b:ByteArray):C8 (a++b)=C8 a++C8 b:=by
 unfold C8
 have:(a++b).data=a.data++b.data:=by simp
 rw[this,Array.toList_append]
theorem ah1 {a b:ByteArray} (h:C8 a=C8 b):a=b:=by
 cases a;cases b
 simp only[ByteArray.mk.injEq]
 exact Array.ext' h
theorem dI0 {m n:Nat} (h:Lib.decDigits m=Lib.decDigits n):m=n:=by rw[←bA1 m,←bA1 n,h]
theorem dp0 {s w:ByteArray} {n d:Nat} (hw:aD6 (C8 w)=[]) (hd:d<10):bu0 s n=bu0 w d↔s=w∧n=d:=by
 have e:∀(x:ByteArray) (k:Nat),C8 (bu0 x k)=C8 x++Lib.decDigits k:=fun x k=>by
  unfold bu0
  rw[aa5]
  show C8 x++Lib.itoa (k:Int)=_
  rw[ay2]
 have key:=dH9 (s:=C8 s) (w:=C8 w) (aU5 n) (aU5 d) hw (bt7 n) (by rw[ak7 hd];rfl)
 constructor
 ·intro h
  have h1:=congrArg C8 h
  rw[e,e]at h1
  obtain⟨h2,h3⟩:=key.1 h1
  exact⟨ah1 h2,dI0 h3⟩
 ·rintro⟨rfl,rfl⟩;rfl
theorem dI1 {s w:ByteArray} {n d:Nat} (hw:aD6 (C8 w)=[]) (hd:d<10) (h:¬(s=w∧n=d)):¬bu0 s n=bu0 w d:=fun e=>h ((dp0 hw hd).1 e)
theorem cn2 (w:ByteArray) {d:Nat} (hd:d<10):bu0 w d=J8 (C8 w++[UInt8.ofNat (48+d)]):=by
 apply ah1
 unfold bu0
 rw[aa5]
 show C8 w++Lib.itoa (d:Int)=C8 w++[UInt8.ofNat (48+d)]
 rw[ay2,ak7 hd]
theorem j6 {a:ByteArray} {l:List UInt8} (h:¬a=J8 l):(a.toList==l)=false:=by
 rw[ByteArray.toList_eq,beq_eq_false_iff_ne]
 intro e
 apply h
 apply ah1
 exact e
theorem G8 {a:ByteArray} {l:List UInt8} (h:a=J8 l):(a.toList==l)=true:=by
 rw[ByteArray.toList_eq,h]
 exact beq_self_eq_true _
theorem aj8 {s w l:ByteArray} {n d:Nat} (hw:aD6 (C8 w)=[]) (hd:d<10) (hl:J8 (C8 w++[UInt8.ofNat (48+d)])=l) (h:¬(s=w∧n=d)):¬s++G6 (n:Int)=l:=by
 rw[←hl,←cn2 w hd]
 exact dI1 hw hd h
theorem dI2 {s w l:ByteArray} {n d:Nat} (hd:d<10) (hl:J8 (C8 w++[UInt8.ofNat (48+d)])=l) (h:s=w∧n=d):s++G6 (n:Int)=l:=by
 rw[←hl,←cn2 w hd,h.1,h.2];rfl
theorem ca9:∀l:List (List UInt8),Lib.join l [32]=joinL l
 |[]=>rfl
 |[a]=>Lib.join_one a [32]
 |a::b::l=>by
  rw[Lib.join_cons,show joinL (a::b::l)=a++32::joinL (b::l)from rfl,←ca9 (b::l),Lib.join_cons]
  simp[Lib.joinTail]
theorem bj2 {s:ByteArray} {q:List ByteArray} {ns:List Int} (hn:T9 q=some ns) (h:U3 s=(ns.length:Int)):A7 (s::q)=⟨1,0,s,J9 (s::q),ns⟩:=by
 unfold A7
 rw[show(s::q).tail=q from rfl,hn]
 simp only
 rw[List.headD_cons,if_pos h]
theorem bj3 {s:ByteArray} {q:List ByteArray} {ns:List Int} (hn:T9 q=some ns) (h:U3 s≠(ns.length:Int)) (h2:Y3 s=(ns.length:Int)):A7 (s::q)=⟨2,0,s,J9 (s::q),ns⟩:=by
 unfold A7
 rw[show(s::q).tail=q from rfl,hn]
 simp only
 rw[List.headD_cons,if_neg h,if_pos h2]
theorem aM5 {s:ByteArray} {q:List ByteArray} {ns:List Int} (hn:T9 q=some ns) (h:U3 s≠(ns.length:Int)) (h2:Y3 s≠(ns.length:Int)):A7 (s::q)=E9:=by
 unfold A7
 rw[show(s::q).tail=q from rfl,hn]
 simp only
 rw[List.headD_cons,if_neg h,if_neg h2]
theorem cz9 {s:ByteArray} {q:List ByteArray} {ns:List Int} (hn:T9 q=some ns) (h:U3 s≠(ns.length:Int)):(A7 (s::q)).kind≠1:=by
 by_cases h2:Y3 s=(ns.length:Int)
 ·rw[bj3 hn h h2];exact(by decide:(2:Int)≠1)
 ·rw[aM5 hn h h2];decide
theorem dc4 {s:ByteArray} {n:Nat} (h:U3 s=(n:Int)):(s=R7∧n=3)∨(s=Y6∧n=2)∨(s=ac6∧n=1)∨(s=Q8∧n=2)∨(s=Z0∧n=3)∨(s=ar9∧n=1)∨(s=R8∧n=1)∨(s=O6∧n=1)∨(s=Y2∧n=2):=by
 unfold U3 at h
 split at h
 ·rename_i g
  have:n=1:=by omega
  rcases g with rfl|rfl|rfl|rfl<;>simp[this]
 ·split at h
  ·rename_i g
   have:n=2:=by omega
   rcases g with rfl|rfl|rfl<;>simp[this]
  ·split at h
   ·rename_i g
    have:n=3:=by omega
    rcases g with rfl|rfl<;>simp[this]
   ·omega
theorem cb0 {s:ByteArray} {n:Nat} (h:Y3 s=(n:Int)):(s=aZ3∧n=0)∨(s=aI3∧n=0)∨(s=aZ4∧n=0)∨(s=aZ5∧n=1)∨(s=aO9∧n=0)∨(s=bs8∧n=0)∨(s=aI4∧n=0)∨(s=aN6∧n=1)∨(s=bi1∧n=0):=by
 unfold Y3 at h
 split at h
 ·rename_i g
  have:n=0:=by omega
  rcases g with rfl|rfl|rfl|rfl|rfl|rfl|rfl<;>simp[this]
 ·split at h
  ·rename_i g
   have:n=1:=by omega
   rcases g with rfl|rfl<;>simp[this]
  ·omega
end
section
open Go.RowKit
attribute [local go_sem] j4.drew j4.alloc j4.drewN WB.holds Oper.semAt_some
def aM6 (u:Nat):ByteArray:=⟨(Lib.decDigits u).toArray⟩
theorem dI3 {n:Nat} (hn:n<10):ByteArray.extract ⟨#[48,49,50,51,52,53,54,55,56,57]⟩ n (n+1)=aM6 n:=by
 unfold aM6
 rw[ak7 hn]
 have:n=0∨n=1∨n=2∨n=3∨n=4∨n=5∨n=6∨n=7∨n=8∨n=9:=by omega
 rcases this with rfl|rfl|rfl|rfl|rfl|rfl|rfl|rfl|rfl|rfl<;>rfl
theorem bH6 (u:Nat):∀k,u<10 ^ (k+1)→(aM6 u).size≤k+1:=by
 induction u using Nat.strongRecOn with
 |_ u ih=>
  intro k h
  show(Lib.decDigits u).length≤k+1
  by_cases g:u<10
  ·rw[ak7 g];simp
  ·rw[aI5 g,ff4]
   cases k with
   |zero=>simp at h;omega
   |succ k=>
    have h2:u / 10<10 ^ (k+1):=by rw[Nat.pow_succ]at h;omega
    have h3:(Lib.decDigits (u / 10)).length≤k+1:=ih (u / 10) (by omega) k h2
    simp only[ff8,fg1]
    omega
theorem dp1 {u:Nat} (h:¬u<10):aM6 (u / 10)++aM6 (u%10)=aM6 u:=by
 unfold aM6
 rw[aI5 h,ak7 (show u%10<10 by omega)]
 apply ByteArray.ext
 apply Array.ext'
 simp
theorem ef3 (u:Nat):G6 (u:Int)=aM6 u:=by unfold G6 aM6;rw[ay2]
theorem cA1 (x q r:Int) (s1 s2:ByteArray) (h0:¬x<0) (h1:¬x<10) (hq:Int.tdiv x 10=q) (hr:Int.tmod x 10=r) (hwq:wrap64 q=q) (hwr:wrap64 r=r) (hb:¬9223372036854775807<s1.size+s2.size)
 (c1:Hid (∀W,Calls Tryz.prog 41 #[.int .i64 q] W (I1 W (.string s1)))) (c2:Hid (∀W,Calls Tryz.prog 41 #[.int .i64 r] W (I1 W (.string s2)))) (w:World):
 Calls Tryz.prog 41 #[.int .i64 x] w (I1 w (.string (s1++s2))):=by
 go_enter Tryz.func41,Tryz.ntmps41
 go_wp2_with(first|((have hgd:=b1;clear hgd;go_at_call 41;refine(c2.out _).mono ?_;rintro e w3 ⟨rfl,hb3⟩;have b2:=b1.trans (hb3.mono b1.size)))|((go_at_call 41;refine(c1.out _).mono ?_;rintro e w2 ⟨rfl,b1⟩)))
 go_ret
 exact⟨rfl,b2⟩
theorem bL8 (u:Nat):u<10 ^ 18→∀w:World,Calls Tryz.prog 41 #[.int .i64 (u:Int)] w (I1 w (.string (aM6 u))):=by
 induction u using Nat.strongRecOn with
 |_ u ih=>
  intro hu w
  have h0:¬(u:Int)<0:=by omega
  by_cases hn:u<10
  ·have h0':(0:Int)≤(u:Int):=by omega
   have h1:(u:Int)<10:=by omega
   have hw1:wrap64 ((u:Int)+1)=(u:Int)+1:=wrap64_in _ (by omega) (by omega)
   have h2:(u:Int)≤(u:Int)+1:=by omega
   have h3:(u:Int)+1≤10:=by omega
   have hn1:((u:Int)+1).toNat=u+1:=by omega
   rw[←dI3 hn]
   clear ih hu hn
   go_enter Tryz.func41,Tryz.ntmps41
   go_wp2
   go_ret
   exact⟨rfl,Below.refl _ _⟩
  ·have hl1:=bH6 (u / 10) 17 (by omega)
   have hl2:=bH6 (u%10) 17 (by omega)
   rw[←dp1 hn]
   exact cA1 (u:Int) ((u / 10:Nat):Int) ((u%10:Nat):Int) _ _ h0 (by omega) rfl rfl (wrap64_in _ (by omega) (by omega)) (wrap64_in _ (by omega) (by omega)) (by omega) (fe6 fun W=>ih (u / 10) (by omega) (by omega) W) (fe6 fun W=>ih (u%10) (by omega) (by omega) W) w
theorem itoa_neg {n:Int} (h:n<0):G6 n=⟨#[45]⟩++aM6 (-n).toNat:=by
 obtain⟨k,rfl⟩:∃k:Nat,n= -((k:Int)+1):=⟨(-n-1).toNat,by omega⟩
 unfold G6 aM6
 apply ByteArray.ext
 apply Array.ext'
 unfold Lib.itoa
 rw[if_pos (by omega)]
 have e:(-((k:Int)+1)).natAbs=(- -((k:Int)+1)).toNat:=by omega
 rw[e]
 simp
theorem bL9 (n:Int) (h1: -1000000000<n) (h2:n<1000000000) (w:World):Calls Tryz.prog 41 #[.int .i64 n] w (I1 w (.string (G6 n))):=by
 by_cases h0:n<0
 ·have hc:=fe6 (bL8 (-n).toNat (by omega))
  have hl:=bH6 (-n).toNat 17 (by omega)
  rw[itoa_neg h0]
  have hneg: -n=((-n).toNat:Int):=by omega
  have hw0:wrap64 (-n)= -n:=wrap64_in _ (by omega) (by omega)
  rw[←hneg]at hc
  generalize aM6 (-n).toNat=s at*
  have hsz:(⟨#[45]⟩:ByteArray).size=1:=rfl
  have hb:¬9223372036854775807<(⟨#[45]⟩:ByteArray).size+s.size:=by omega
  clear hl hneg
  go_enter Tryz.func41,Tryz.ntmps41
  go_wp2_with(first|((go_at_call 41;refine(hc.out _).mono ?_;rintro e w2 ⟨rfl,b1⟩)))
  go_ret
  exact⟨rfl,b1⟩
 ·obtain⟨k,rfl⟩:=Int.eq_ofNat_of_zero_le (show 0≤n by omega)
  have:=bL8 k (by omega) w
  rw[←ef3]at this
  exact this
end
section
open Go.RowKit
attribute [local go_sem] j4.drew j4.alloc j4.drewN WB.holds Oper.semAt_some
theorem bE2 (l:List ByteArray) (k:Nat):∀d,(ah6 l k).length≤(ah6 l (k+d)).length
 |0=>fh0 _
 |d+1=>by rw[←Nat.add_assoc,aE8,ff4];exact fh1 (bE2 l k d) (by omega)
theorem dc5 (l:List ByteArray) {k:Nat} (h:k≤l.length):(ah6 l k).length≤(J9 l).size:=by
 have:=bE2 l k (l.length-k)
 rw[show k+(l.length-k)=l.length by omega]at this
 exact this
theorem cN5 (p:List ByteArray) {s acc:ByteArray} (hs:At p 0 s) (ha:acc=J8 (ah6 p 0)):J8 (ah6 p 1)=acc++s:=by
 have e:p.getD 0 ⟨#[]⟩=s:=by rw[ff3,show p[0]? =some s from hs];rfl
 subst ha
 apply ah1
 rw[aa5,show(1:Nat)=0+1 from rfl,aE8,e,if_pos rfl]
 rfl
theorem dc6 (p:List ByteArray) {k:Nat} {s acc:ByteArray} (hk:k≠0) (hs:At p k s) (ha:acc=J8 (ah6 p k)):J8 (ah6 p (k+1))=(acc++⟨#[32]⟩)++s:=by
 have e:p.getD k ⟨#[]⟩=s:=by rw[ff3,show p[k]? =some s from hs];rfl
 subst ha
 apply ah1
 rw[aa5,aa5,aE8,e,if_neg hk]
 show ah6 p k++([32]++C8 s)=(ah6 p k++[32])++C8 s
 rw[List.append_assoc]
theorem cN6 (va:Value) (p:List ByteArray) (hz:(J9 p).size≤2000000) (H:j5) (w:World) (hw:j4 H w) (ha:Sl H va p):
 Calls Tryz.prog 111 #[va] w (I1 w (.string (J9 p))):=by
 obtain⟨aa,ca,rfl,_,_⟩:=ha.form
 have hle:=fun k (h:k≤p.length)=>dc5 p h
 have hfin:J8 (ah6 p p.length)=J9 p:=rfl
 generalize J9 p=J at*
 replace hle:=fe6 hle
 replace hfin:=fe6 hfin
 go_enter Tryz.func111,Tryz.ntmps111
 go_wp2
 go_loopw [3,4] (fun o i wr=>∃(k:Nat) (acc:ByteArray),k≤p.length∧i= .int .i64 (k:Int)∧o= .string acc∧Hid (acc=J8 (ah6 p k))∧Ext w H wr H) (fun _ i _=>p.length-(intOf i).toNat)
 case atStart=>exact⟨0,⟨#[]⟩,fh3 _,rfl,rfl,rfl,Ext.refl hw⟩
 case round=>
  obtain⟨k,acc,hk,rfl,rfl,hacc,xr⟩:=hrel
  have hwr:=xr.holds
  have hk0:(0:Int)≤(k:Int):=by omega
  by_cases hlk:k<p.length
  ·obtain⟨s,hs⟩:=At.mk hlk
   obtain⟨b,o,c,he,hss,r1⟩:=ha.str hs
   cases he
   have hk1:(k:Int)<(p.length:Int):=by omega
   have hl1:=hle.out (k+1) hlk
   have hsz:(J8 (ah6 p (k+1))).size=(ah6 p (k+1)).length:=rfl
   by_cases h0:k=0
   ·subst h0
    simp only[fh2]at r1
    have bj4:=cN5 p hs hacc.out
    rw[bj4,ByteArray.size_append]at hsz
    have hb1:¬9223372036854775807<acc.size+s.size:=by omega
    replace bj4:=fe6 bj4
    clear hs hl1 hsz
    go_wp2
    go_roundw
    case rel=>exact⟨1,_,hlk,by go_num,rfl,by show _=_;rw[bj4.out],xr⟩
    case measure=>simp[intOf];omega
   ·have bj4:=dc6 p h0 hs hacc.out
    rw[bj4,ByteArray.size_append,ByteArray.size_append]at hsz
    have h1:(⟨#[32]⟩:ByteArray).size=1:=rfl
    rw[h1]at hsz
    have hb1:¬9223372036854775807<acc.size+1:=by omega
    have hb2:¬9223372036854775807<acc.size+1+s.size:=by omega
    have hpos:(0:Int)<(k:Int):=by omega
    replace bj4:=fe6 bj4
    clear hs hl1 hsz h0
    go_wp2
    go_roundw
    case rel=>exact⟨k+1,_,hlk,by go_num,rfl,by show _=_;rw[bj4.out],xr⟩
    case measure=>simp[intOf];omega
  ·have hke:k=p.length:=by omega
   have hk1:¬(k:Int)<(p.length:Int):=by omega
   have e:=hacc.out
   rw[hke,hfin.out]at e
   replace e:=fe6 e
   clear hacc
   go_wp2
   go_ret
   refine⟨?_,xr.below⟩
   rw[e.out];rfl
theorem cN7 (s:ByteArray) (w:World):Calls Tryz.prog 112 #[.string s] w (I1 w (.tuple #[.int .i64 (U3 s),.int .i64 (Y3 s)])):=by
 by_cases K6:s=ac6
 ·have he:U3 s=1∧Y3 s= -1:=by rw[K6];exact⟨by decide,by decide⟩
  rw[he.1,he.2]
  clear he
  have ac0:=G8 (l:=[116,114,97,105,110]) K6
  clear K6
  go_enter Tryz.func112,Tryz.ntmps112
  go_wp2
  go_ret2
  exact⟨rfl,Below.refl _ _⟩
 by_cases V7:s=ar9
 ·have he:U3 s=1∧Y3 s= -1:=by rw[V7];exact⟨by decide,by decide⟩
  rw[he.1,he.2]
  clear he
  have ac0:=j6 (l:=[116,114,97,105,110]) K6
  have as0:=G8 (l:=[103,97,112]) V7
  clear K6 V7
  go_enter Tryz.func112,Tryz.ntmps112
  go_wp2
  go_ret2
  exact⟨rfl,Below.refl _ _⟩
 by_cases Q5:s=R8
 ·have he:U3 s=1∧Y3 s= -1:=by rw[Q5];exact⟨by decide,by decide⟩
  rw[he.1,he.2]
  clear he
  have ac0:=j6 (l:=[116,114,97,105,110]) K6
  have as0:=j6 (l:=[103,97,112]) V7
  have an8:=G8 (l:=[99,97,115,116]) Q5
  clear K6 V7 Q5
  go_enter Tryz.func112,Tryz.ntmps112
  go_wp2
  go_ret2
  exact⟨rfl,Below.refl _ _⟩
 by_cases P5:s=O6
 ·have he:U3 s=1∧Y3 s= -1:=by rw[P5];exact⟨by decide,by decide⟩
  rw[he.1,he.2]
  clear he
  have ac0:=j6 (l:=[116,114,97,105,110]) K6
  have as0:=j6 (l:=[103,97,112]) V7
  have an8:=j6 (l:=[99,97,115,116]) Q5
  have al9:=G8 (l:=[98,114,111,107,101]) P5
  clear K6 V7 Q5 P5
  go_enter Tryz.func112,Tryz.ntmps112
  go_wp2
  go_ret2
  exact⟨rfl,Below.refl _ _⟩
 by_cases L6:s=Y6
 ·have he:U3 s=2∧Y3 s= -1:=by rw[L6];exact⟨by decide,by decide⟩
  rw[he.1,he.2]
  clear he
  have ac0:=j6 (l:=[116,114,97,105,110]) K6
  have as0:=j6 (l:=[103,97,112]) V7
  have an8:=j6 (l:=[99,97,115,116]) Q5
  have al9:=j6 (l:=[98,114,111,107,101]) P5
  have ae7:=G8 (l:=[115,116,111,112,115]) L6
  clear K6 V7 Q5 P5 L6
  go_enter Tryz.func112,Tryz.ntmps112
  go_wp2
  go_ret2
  exact⟨rfl,Below.refl _ _⟩
 by_cases K9:s=Q8
 ·have he:U3 s=2∧Y3 s= -1:=by rw[K9];exact⟨by decide,by decide⟩
  rw[he.1,he.2]
  clear he
  have ac0:=j6 (l:=[116,114,97,105,110]) K6
  have as0:=j6 (l:=[103,97,112]) V7
  have an8:=j6 (l:=[99,97,115,116]) Q5
  have al9:=j6 (l:=[98,114,111,107,101]) P5
  have ae7:=j6 (l:=[115,116,111,112,115]) L6
  have ae1:=G8 (l:=[108,101,97,118,101,115]) K9
  clear K6 V7 Q5 P5 L6 K9
  go_enter Tryz.func112,Tryz.ntmps112
  go_wp2
  go_ret2
  exact⟨rfl,Below.refl _ _⟩
 by_cases Z9:s=Y2
 ·have he:U3 s=2∧Y3 s= -1:=by rw[Z9];exact⟨by decide,by decide⟩
  rw[he.1,he.2]
  clear he
  have ac0:=j6 (l:=[116,114,97,105,110]) K6
  have as0:=j6 (l:=[103,97,112]) V7
  have an8:=j6 (l:=[99,97,115,116]) Q5
  have al9:=j6 (l:=[98,114,111,107,101]) P5
  have ae7:=j6 (l:=[115,116,111,112,115]) L6
  have ae1:=j6 (l:=[108,101,97,118,101,115]) K9
  have aA8:=G8 (l:=[119,97,110,116]) Z9
  clear K6 V7 Q5 P5 L6 K9 Z9
  go_enter Tryz.func112,Tryz.ntmps112
  go_wp2
  go_ret2
  exact⟨rfl,Below.refl _ _⟩
 by_cases I8:s=R7
 ·have he:U3 s=3∧Y3 s= -1:=by rw[I8];exact⟨by decide,by decide⟩
  rw[he.1,he.2]
  clear he
  have ac0:=j6 (l:=[116,114,97,105,110]) K6
  have as0:=j6 (l:=[103,97,112]) V7
  have an8:=j6 (l:=[99,97,115,116]) Q5
  have al9:=j6 (l:=[98,114,111,107,101]) P5
  have ae7:=j6 (l:=[115,116,111,112,115]) L6
  have ae1:=j6 (l:=[108,101,97,118,101,115]) K9
  have aA8:=j6 (l:=[119,97,110,116]) Z9
  have aa3:=G8 (l:=[109,97,99,104,105,110,101]) I8
  clear K6 V7 Q5 P5 L6 K9 Z9 I8
  go_enter Tryz.func112,Tryz.ntmps112
  go_wp2
  go_ret2
  exact⟨rfl,Below.refl _ _⟩
 by_cases O4:s=Z0
 ·have he:U3 s=3∧Y3 s= -1:=by rw[O4];exact⟨by decide,by decide⟩
  rw[he.1,he.2]
  clear he
  have ac0:=j6 (l:=[116,114,97,105,110]) K6
  have as0:=j6 (l:=[103,97,112]) V7
  have an8:=j6 (l:=[99,97,115,116]) Q5
  have al9:=j6 (l:=[98,114,111,107,101]) P5
  have ae7:=j6 (l:=[115,116,111,112,115]) L6
  have ae1:=j6 (l:=[108,101,97,118,101,115]) K9
  have aA8:=j6 (l:=[119,97,110,116]) Z9
  have aa3:=j6 (l:=[109,97,99,104,105,110,101]) I8
  have ak5:=G8 (l:=[98,117,110,100,108,101]) O4
  clear K6 V7 Q5 P5 L6 K9 Z9 I8 O4
  go_enter Tryz.func112,Tryz.ntmps112
  go_wp2
  go_ret2
  exact⟨rfl,Below.refl _ _⟩
 by_cases al5:s=aZ3
 ·have he:U3 s= -1∧Y3 s=0:=by rw[al5];exact⟨by decide,by decide⟩
  rw[he.1,he.2]
  clear he
  have ac0:=j6 (l:=[116,114,97,105,110]) K6
  have as0:=j6 (l:=[103,97,112]) V7
  have an8:=j6 (l:=[99,97,115,116]) Q5
  have al9:=j6 (l:=[98,114,111,107,101]) P5
  have ae7:=j6 (l:=[115,116,111,112,115]) L6
  have ae1:=j6 (l:=[108,101,97,118,101,115]) K9
  have aA8:=j6 (l:=[119,97,110,116]) Z9
  have aa3:=j6 (l:=[109,97,99,104,105,110,101]) I8
  have ak5:=j6 (l:=[98,117,110,100,108,101]) O4
  have aT1:=G8 (l:=[115,117,114,101]) al5
  clear K6 V7 Q5 P5 L6 K9 Z9 I8 O4 al5
  go_enter Tryz.func112,Tryz.ntmps112
  go_wp2
  go_ret2
  exact⟨rfl,Below.refl _ _⟩
 by_cases ae2:s=aI3
 ·have he:U3 s= -1∧Y3 s=0:=by rw[ae2];exact⟨by decide,by decide⟩
  rw[he.1,he.2]
  clear he
  have ac0:=j6 (l:=[116,114,97,105,110]) K6
  have as0:=j6 (l:=[103,97,112]) V7
  have an8:=j6 (l:=[99,97,115,116]) Q5
  have al9:=j6 (l:=[98,114,111,107,101]) P5
  have ae7:=j6 (l:=[115,116,111,112,115]) L6
  have ae1:=j6 (l:=[108,101,97,118,101,115]) K9
  have aA8:=j6 (l:=[119,97,110,116]) Z9
  have aa3:=j6 (l:=[109,97,99,104,105,110,101]) I8
  have ak5:=j6 (l:=[98,117,110,100,108,101]) O4
  have aT1:=j6 (l:=[115,117,114,101]) al5
  have aI9:=G8 (l:=[102,101,119,101,115,116]) ae2
  clear K6 V7 Q5 P5 L6 K9 Z9 I8 O4 al5 ae2
  go_enter Tryz.func112,Tryz.ntmps112
  go_wp2
  go_ret2
  exact⟨rfl,Below.refl _ _⟩
 by_cases ar3:s=aZ4
 ·have he:U3 s= -1∧Y3 s=0:=by rw[ar3];exact⟨by decide,by decide⟩
  rw[he.1,he.2]
  clear he
  have ac0:=j6 (l:=[116,114,97,105,110]) K6
  have as0:=j6 (l:=[103,97,112]) V7
  have an8:=j6 (l:=[99,97,115,116]) Q5
  have al9:=j6 (l:=[98,114,111,107,101]) P5
  have ae7:=j6 (l:=[115,116,111,112,115]) L6
  have ae1:=j6 (l:=[108,101,97,118,101,115]) K9
  have aA8:=j6 (l:=[119,97,110,116]) Z9
  have aa3:=j6 (l:=[109,97,99,104,105,110,101]) I8
  have ak5:=j6 (l:=[98,117,110,100,108,101]) O4
  have aT1:=j6 (l:=[115,117,114,101]) al5
  have aI9:=j6 (l:=[102,101,119,101,115,116]) ae2
  have bj5:=G8 (l:=[116,111,108,100]) ar3
  clear K6 V7 Q5 P5 L6 K9 Z9 I8 O4 al5 ae2 ar3
  go_enter Tryz.func112,Tryz.ntmps112
  go_wp2
  go_ret2
  exact⟨rfl,Below.refl _ _⟩
 by_cases ao3:s=aO9
 ·have he:U3 s= -1∧Y3 s=0:=by rw[ao3];exact⟨by decide,by decide⟩
  rw[he.1,he.2]
  clear he
  have ac0:=j6 (l:=[116,114,97,105,110]) K6
  have as0:=j6 (l:=[103,97,112]) V7
  have an8:=j6 (l:=[99,97,115,116]) Q5
  have al9:=j6 (l:=[98,114,111,107,101]) P5
  have ae7:=j6 (l:=[115,116,111,112,115]) L6
  have ae1:=j6 (l:=[108,101,97,118,101,115]) K9
  have aA8:=j6 (l:=[119,97,110,116]) Z9
  have aa3:=j6 (l:=[109,97,99,104,105,110,101]) I8
  have ak5:=j6 (l:=[98,117,110,100,108,101]) O4
  have aT1:=j6 (l:=[115,117,114,101]) al5
  have aI9:=j6 (l:=[102,101,119,101,115,116]) ae2
  have bj5:=j6 (l:=[116,111,108,100]) ar3
  have bf2:=G8 (l:=[115,112,97,114,101]) ao3
  clear K6 V7 Q5 P5 L6 K9 Z9 I8 O4 al5 ae2 ar3 ao3
  go_enter Tryz.func112,Tryz.ntmps112
  go_wp2
  go_ret2
  exact⟨rfl,Below.refl _ _⟩
 by_cases aK2:s=bs8
 ·have he:U3 s= -1∧Y3 s=0:=by rw[aK2];exact⟨by decide,by decide⟩
  rw[he.1,he.2]
  clear he
  have ac0:=j6 (l:=[116,114,97,105,110]) K6
  have as0:=j6 (l:=[103,97,112]) V7
  have an8:=j6 (l:=[99,97,115,116]) Q5
  have al9:=j6 (l:=[98,114,111,107,101]) P5
  have ae7:=j6 (l:=[115,116,111,112,115]) L6
  have ae1:=j6 (l:=[108,101,97,118,101,115]) K9
  have aA8:=j6 (l:=[119,97,110,116]) Z9
  have aa3:=j6 (l:=[109,97,99,104,105,110,101]) I8
  have ak5:=j6 (l:=[98,117,110,100,108,101]) O4
  have aT1:=j6 (l:=[115,117,114,101]) al5
  have aI9:=j6 (l:=[102,101,119,101,115,116]) ae2
  have bj5:=j6 (l:=[116,111,108,100]) ar3
  have bf2:=j6 (l:=[115,112,97,114,101]) ao3
  have eNew:=G8 (l:=[110,101,119]) aK2
  clear K6 V7 Q5 P5 L6 K9 Z9 I8 O4 al5 ae2 ar3 ao3 aK2
  go_enter Tryz.func112,Tryz.ntmps112
  go_wp2
  go_ret2
  exact⟨rfl,Below.refl _ _⟩
 by_cases as4:s=aI4
 ·have he:U3 s= -1∧Y3 s=0:=by rw[as4];exact⟨by decide,by decide⟩
  rw[he.1,he.2]
  clear he
  have ac0:=j6 (l:=[116,114,97,105,110]) K6
  have as0:=j6 (l:=[103,97,112]) V7
  have an8:=j6 (l:=[99,97,115,116]) Q5
  have al9:=j6 (l:=[98,114,111,107,101]) P5
  have ae7:=j6 (l:=[115,116,111,112,115]) L6
  have ae1:=j6 (l:=[108,101,97,118,101,115]) K9
  have aA8:=j6 (l:=[119,97,110,116]) Z9
  have aa3:=j6 (l:=[109,97,99,104,105,110,101]) I8
  have ak5:=j6 (l:=[98,117,110,100,108,101]) O4
  have aT1:=j6 (l:=[115,117,114,101]) al5
  have aI9:=j6 (l:=[102,101,119,101,115,116]) ae2
  have bj5:=j6 (l:=[116,111,108,100]) ar3
  have bf2:=j6 (l:=[115,112,97,114,101]) ao3
  have eNew:=j6 (l:=[110,101,119]) aK2
  have bA2:=G8 (l:=[119,111,114,108,100,115]) as4
  clear K6 V7 Q5 P5 L6 K9 Z9 I8 O4 al5 ae2 ar3 ao3 aK2 as4
  go_enter Tryz.func112,Tryz.ntmps112
  go_wp2
  go_ret2
  exact⟨rfl,Below.refl _ _⟩
 by_cases aO0:s=bi1
 ·have he:U3 s= -1∧Y3 s=0:=by rw[aO0];exact⟨by decide,by decide⟩
  rw[he.1,he.2]
  clear he
  have ac0:=j6 (l:=[116,114,97,105,110]) K6
  have as0:=j6 (l:=[103,97,112]) V7
  have an8:=j6 (l:=[99,97,115,116]) Q5
  have al9:=j6 (l:=[98,114,111,107,101]) P5
  have ae7:=j6 (l:=[115,116,111,112,115]) L6
  have ae1:=j6 (l:=[108,101,97,118,101,115]) K9
  have aA8:=j6 (l:=[119,97,110,116]) Z9
  have aa3:=j6 (l:=[109,97,99,104,105,110,101]) I8
  have ak5:=j6 (l:=[98,117,110,100,108,101]) O4
  have aT1:=j6 (l:=[115,117,114,101]) al5
  have aI9:=j6 (l:=[102,101,119,101,115,116]) ae2
  have bj5:=j6 (l:=[116,111,108,100]) ar3
  have bf2:=j6 (l:=[115,112,97,114,101]) ao3
  have eNew:=j6 (l:=[110,101,119]) aK2
  have bA2:=j6 (l:=[119,111,114,108,100,115]) as4
  have cN8:=G8 (l:=[116,101,115,116]) aO0
  clear K6 V7 Q5 P5 L6 K9 Z9 I8 O4 al5 ae2 ar3 ao3 aK2 as4 aO0
  go_enter Tryz.func112,Tryz.ntmps112
  go_wp2
  go_ret2
  exact⟨rfl,Below.refl _ _⟩
 by_cases ba0:s=aZ5
 ·have he:U3 s= -1∧Y3 s=1:=by rw[ba0];exact⟨by decide,by decide⟩
  rw[he.1,he.2]
  clear he
  have ac0:=j6 (l:=[116,114,97,105,110]) K6
  have as0:=j6 (l:=[103,97,112]) V7
  have an8:=j6 (l:=[99,97,115,116]) Q5
  have al9:=j6 (l:=[98,114,111,107,101]) P5
  have ae7:=j6 (l:=[115,116,111,112,115]) L6
  have ae1:=j6 (l:=[108,101,97,118,101,115]) K9
  have aA8:=j6 (l:=[119,97,110,116]) Z9
  have aa3:=j6 (l:=[109,97,99,104,105,110,101]) I8
  have ak5:=j6 (l:=[98,117,110,100,108,101]) O4
  have aT1:=j6 (l:=[115,117,114,101]) al5
  have aI9:=j6 (l:=[102,101,119,101,115,116]) ae2
  have bj5:=j6 (l:=[116,111,108,100]) ar3
  have bf2:=j6 (l:=[115,112,97,114,101]) ao3
  have eNew:=j6 (l:=[110,101,119]) aK2
  have bA2:=j6 (l:=[119,111,114,108,100,115]) as4
  have cN8:=j6 (l:=[116,101,115,116]) aO0
  have dy5:=G8 (l:=[119,97,105,116]) ba0
  clear K6 V7 Q5 P5 L6 K9 Z9 I8 O4 al5 ae2 ar3 ao3 aK2 as4 aO0 ba0
  go_enter Tryz.func112,Tryz.ntmps112
  go_wp2
  go_ret2
  exact⟨rfl,Below.refl _ _⟩
 by_cases bA3:s=aN6
 ·have he:U3 s= -1∧Y3 s=1:=by rw[bA3];exact⟨by decide,by decide⟩
  rw[he.1,he.2]
  clear he
  have ac0:=j6 (l:=[116,114,97,105,110]) K6
  have as0:=j6 (l:=[103,97,112]) V7
  have an8:=j6 (l:=[99,97,115,116]) Q5
  have al9:=j6 (l:=[98,114,111,107,101]) P5
  have ae7:=j6 (l:=[115,116,111,112,115]) L6
  have ae1:=j6 (l:=[108,101,97,118,101,115]) K9
  have aA8:=j6 (l:=[119,97,110,116]) Z9
  have aa3:=j6 (l:=[109,97,99,104,105,110,101]) I8
  have ak5:=j6 (l:=[98,117,110,100,108,101]) O4
  have aT1:=j6 (l:=[115,117,114,101]) al5
  have aI9:=j6 (l:=[102,101,119,101,115,116]) ae2
  have bj5:=j6 (l:=[116,111,108,100]) ar3
  have bf2:=j6 (l:=[115,112,97,114,101]) ao3
  have eNew:=j6 (l:=[110,101,119]) aK2
  have bA2:=j6 (l:=[119,111,114,108,100,115]) as4
  have cN8:=j6 (l:=[116,101,115,116]) aO0
  have dy5:=j6 (l:=[119,97,105,116]) ba0
  have ef4:=G8 (l:=[108,101,102,116]) bA3
  clear K6 V7 Q5 P5 L6 K9 Z9 I8 O4 al5 ae2 ar3 ao3 aK2 as4 aO0 ba0 bA3
  go_enter Tryz.func112,Tryz.ntmps112
  go_wp2
  go_ret2
  exact⟨rfl,Below.refl _ _⟩
 have he:U3 s= -1∧Y3 s= -1:=by
  unfold U3 Y3
  simp only[K6,V7,Q5,P5,L6,K9,Z9,I8,O4,al5,ae2,ar3,ao3,aK2,as4,aO0,ba0,bA3,or_self,if_false]
  exact⟨trivial,trivial⟩
 rw[he.1,he.2]
 clear he
 have ac0:=j6 (l:=[116,114,97,105,110]) K6
 have as0:=j6 (l:=[103,97,112]) V7
 have an8:=j6 (l:=[99,97,115,116]) Q5
 have al9:=j6 (l:=[98,114,111,107,101]) P5
 have ae7:=j6 (l:=[115,116,111,112,115]) L6
 have ae1:=j6 (l:=[108,101,97,118,101,115]) K9
 have aA8:=j6 (l:=[119,97,110,116]) Z9
 have aa3:=j6 (l:=[109,97,99,104,105,110,101]) I8
 have ak5:=j6 (l:=[98,117,110,100,108,101]) O4
 have aT1:=j6 (l:=[115,117,114,101]) al5
 have aI9:=j6 (l:=[102,101,119,101,115,116]) ae2
 have bj5:=j6 (l:=[116,111,108,100]) ar3
 have bf2:=j6 (l:=[115,112,97,114,101]) ao3
 have eNew:=j6 (l:=[110,101,119]) aK2
 have bA2:=j6 (l:=[119,111,114,108,100,115]) as4
 have cN8:=j6 (l:=[116,101,115,116]) aO0
 have dy5:=j6 (l:=[119,97,105,116]) ba0
 have ef4:=j6 (l:=[108,101,102,116]) bA3
 clear K6 V7 Q5 P5 L6 K9 Z9 I8 O4 al5 ae2 ar3 ao3 aK2 as4 aO0 ba0 bA3
 go_enter Tryz.func112,Tryz.ntmps112
 go_wp2
 go_ret2
 exact⟨rfl,Below.refl _ _⟩
def aV7 (s:ByteArray):Int:=(O5 s).getD 0
def aq5 (s:ByteArray):Bool:=(O5 s).isSome
theorem dI4:∀l:List UInt8,l.all W9=true→0≤aA4 l∧aA4 l<10 ^ l.length:=ad1 (fun _=>⟨by decide,by decide⟩) fun l b ih h=>by
 rw[List.all_append,fh9]at h
 have hb:=ah8.1 (List.all_eq_true.1 h.2 b (by simp))
 have h1:=ih h.1
 rw[aZ2,ff4,ff7,Int.pow_succ]
 omega
theorem cn3 {l:List UInt8} (h:l.all W9=true) (h6:l.length≤6):0≤aA4 l∧aA4 l≤999999:=by
 have h1:=dI4 l h
 have h2:(10:Int) ^ l.length≤10 ^ 6:=by
  have:(10:Nat) ^ l.length≤10 ^ 6:=Nat.pow_le_pow_right (by decide) h6
  exact_mod_cast this
 have h3:(10:Int) ^ 6=1000000:=by decide
 omega
theorem byte_at {s:ByteArray} {k:Nat} {x:UInt8} (h:At (C8 s) k x) (hk:k<s.size):s[k]=x:=by
 have h1:(C8 s)[k]? =some x:=h
 rw[fg0 (show k<(C8 s).length from hk)]at h1
 exact Option.some.inj h1
theorem aV8 {l:List UInt8} {neg:Bool} (h:l.length<1∨6<l.length∨(l.head?=some 48∧(1<l.length∨neg=true))):am9 l neg=none:=by unfold am9;rw[if_pos h]
theorem cF7 {l:List UInt8} {neg:Bool} (h:¬(l.length<1∨6<l.length∨(l.head?=some 48∧(1<l.length∨neg=true)))) {k:Nat} {x:UInt8} (hx:At l k x) (hd:W9 x=false):am9 l neg=none:=by
 unfold am9
 rw[if_neg h,if_neg]
 intro hh
 have:=List.all_eq_true.1 hh x hx.mem
 rw[hd]at this;cases this
theorem cn4 {l:List UInt8} {neg:Bool} (h:¬(l.length<1∨6<l.length∨(l.head?=some 48∧(1<l.length∨neg=true)))) (hd:l.all W9=true):am9 l neg=some (if neg then-aA4 l else aA4 l):=by
 unfold am9
 rw[if_neg h,if_pos hd]
theorem dc7 {x:UInt8} (h:W9 x=false):(x.toNat:Int)<48∨(¬(x.toNat:Int)<48∧57<(x.toNat:Int)):=by
 by_cases h1:(x.toNat:Int)<48
 ·exact .inl h1
 ·refine .inr ⟨h1, ?_⟩
  by_cases h2:57<(x.toNat:Int)
  ·exact h2
  ·have:W9 x=true:=ah8.2 ⟨by omega,by omega⟩
   rw[this]at h;cases h
theorem cn5 (u:ByteArray) (hx:∀h:0<u.size,(u[0]).toNat≠45) (w:World) (v:Int) (is:Bool) (hv:(am9 (C8 u) false).getD 0=v) (his:(am9 (C8 u) false).isSome=is):
 Calls Tryz.prog 45 #[.string u] w (I1 w (.tuple #[.int .i64 v,.bool is])):=by
 have hlen:(C8 u).length=u.size:=rfl
 by_cases c1:u.size<1
 ·have hn:=aV8 (neg:=false) (l:=C8 u) (.inl c1)
  rw[hn]at hv his
  have hv':v=0:=hv.symm
  have aq6:is=false:=his.symm
  subst hv' aq6
  have t1:(u.size:Int)<1:=by omega
  have tz:¬(0:Int)<(u.size:Int):=by omega
  clear hv his hn hlen c1 hx
  go_enter Tryz.func45,Tryz.ntmps45
  go_wp2
  go_ret2
  exact⟨rfl,Below.refl _ _⟩
 have t1:¬(u.size:Int)<1:=by omega
 have u0:0<u.size:=by omega
 have u0I:(0:Int)<(u.size:Int):=by omega
 obtain⟨x,hat⟩:=At.mk (show 0<(C8 u).length from u0)
 have hux:=byte_at hat u0
 have hhead:(C8 u).head?=some x:=by rw[List.head?_eq_getElem?];exact hat
 have hx256:x.toNat<256:=x.toNat_lt
 have hxx:=hx u0
 rw[hux]at hxx
 have t0:(x.toNat==45)=false:=beq_eq_false_iff_ne.2 hxx
 have t0I:((x.toNat:Int)==45)=false:=beq_eq_false_iff_ne.2 (by omega)
 clear hx hxx
 by_cases c2:6<u.size
 ·have hn:=aV8 (neg:=false) (l:=C8 u) (.inr (.inl c2))
  rw[hn]at hv his
  have hv':v=0:=hv.symm
  have aq6:is=false:=his.symm
  subst hv' aq6
  have t2:6<(u.size:Int):=by omega
  clear hv his hn hlen c1 hat hhead
  go_enter Tryz.func45,Tryz.ntmps45
  go_wp2
  go_ret2
  exact⟨rfl,Below.refl _ _⟩
 have t2:¬6<(u.size:Int):=by omega
 have hu6:(u.size:Int)≤6:=by omega
 have hrest:¬((C8 u).head?=some 48∧(1<(C8 u).length∨false=true))→∀tt,Hid (((x.toNat:Int)==48)=tt)→(tt=true→¬1<u.size)→Calls Tryz.prog 45 #[.string u] w (I1 w (.tuple #[.int .i64 v,.bool is])):=by
  intro hz tt htt hone
  have hok:¬((C8 u).length<1∨6<(C8 u).length∨((C8 u).head?=some 48∧(1<(C8 u).length∨false=true))):=by
   rintro(h|h|h)
   ·exact c1 h
   ·exact c2 h
   ·exact hz h
  have hgood:=fun h=>cn4 (neg:=false) hok h
  have hbad:=fun(k:Nat) (y:UInt8) (h:At (C8 u) k y) (h2:W9 y=false)=>cF7 (neg:=false) hok h h2
  have h6:=fun(k:Nat) (hk:k≤u.size) (h:((C8 u).take k).all W9=true)=>cn3 h (show((C8 u).take k).length≤6 by rw[fg6];omega)
  have hfull:(C8 u).take u.size=C8 u:=fg7 (Nat.le_of_eq hlen)
  replace hgood:=fe6 hgood
  replace hbad:=fe6 hbad
  replace h6:=fe6 h6
  replace hv:=fe6 hv
  replace his:=fe6 his
  replace hfull:=fe6 hfull
  skip
  clear hok hz hhead hat hlen c1 c2
  cases tt
  skip
  all_goals
   have ht3:=htt.out
  case' true=>have t4:¬1<(u.size:Int):=by have:=hone rfl;omega
  all_goals
   clear htt hone
   go_enter Tryz.func45,Tryz.ntmps45
   go_wp2
   (try clear ht3)
   go_loopw [6,7] (fun n i wr=>∃k:Nat,k≤u.size∧i= .int .i64 (k:Int)∧n= .int .i64 (aA4 ((C8 u).take k))∧Hid (((C8 u).take k).all W9=true)∧wr=w) (fun _ i _=>u.size-(intOf i).toNat)
   case atStart=>exact⟨0,fh3 _,rfl,rfl,rfl,rfl⟩
   case round=>
    obtain⟨k,hk,rfl,rfl,hall,rfl⟩:=hrel
    have hk0:(0:Int)≤(k:Int):=by omega
    by_cases hlk:k<u.size
    ·obtain⟨y,hy⟩:=At.mk (show k<(C8 u).length from hlk)
     have huy:=byte_at hy hlk
     have hk1:(k:Int)<(u.size:Int):=by omega
     have ef5:y.toNat<256:=y.toNat_lt
     cases hd:W9 y
     ·have hn:=hbad.out k y hy hd
      have hv2:=hv.out
      have hi2:=his.out
      rw[hn]at hv2 hi2
      have hv':v=0:=hv2.symm
      have aq6:is=false:=hi2.symm
      have dp2:=fe6 hv'
      have cN9:=fe6 aq6
      clear hv' aq6 hv2 hi2 hn
      rcases dc7 hd with g|⟨g,g'⟩
      all_goals
       go_wp2
       go_ret2
       rw[dp2.out,cN9.out]
       exact⟨rfl,Below.refl _ _⟩
     ·have hyd:=ah8.1 hd
      have g1:¬(y.toNat:Int)<48:=by omega
      have g2:¬57<(y.toNat:Int):=by omega
      have g3:IntKind.u8.wrap ((y.toNat:Int)-48)=(y.toNat:Int)-48:=by simp[IntKind.wrap,IntKind.signed,IntKind.bits];omega
      have hb6:=h6.out k hk hall.out
      have hsn:=aZ2 ((C8 u).take k) y
      rw[←hy.take]at hsn
      have cO0:Hid (((C8 u).take (k+1)).all W9=true):=by show _=_;rw[hy.take,List.all_append,hall.out];simp[hd]
      generalize aA4 ((C8 u).take k)=n at*
      have g4:wrap64 (n*10)=n*10:=wrap64_in _ (by omega) (by omega)
      have g5:wrap64 (n*10+((y.toNat:Int)-48))=n*10+((y.toNat:Int)-48):=wrap64_in _ (by omega) (by omega)
      have g6:wrap64 ((y.toNat:Int)-48)=(y.toNat:Int)-48:=wrap64_in _ (by omega) (by omega)
      replace hsn:=fe6 hsn
      clear hd hyd hb6 hy
      go_wp2
      go_roundw
      case rel=>exact⟨k+1,hlk,by go_num,by rw[hsn.out];first|rfl|rw[g5],cO0,by first|rfl|trivial⟩
      case measure=>simp[intOf];omega
    ·have hke:k=u.size:=by omega
     subst hke
     have bj6:=hall.out
     rw[hfull.out]at bj6
     have hb6:=h6.out _ hk hall.out
     rw[hfull.out]at hb6 ⊢
     have hn:=hgood.out bj6
     have hv2:=hv.out
     have hi2:=his.out
     rw[hn]at hv2 hi2
     generalize aA4 (C8 u)=n at*
     have hv':v=n:=hv2.symm
     have aq6:is=true:=hi2.symm
     subst hv' aq6
     have g4:wrap64 (1*v)=v:=by rw[show(1*v)=v by omega];exact wrap64_in _ (by omega) (by omega)
     clear hv his hn hv2 hi2 hgood hbad h6 bj6 hall hfull
     go_wp2
     go_ret2
     exact⟨rfl,Below.refl _ _⟩
 by_cases c3:x=48
 ·subst c3
  by_cases c4:1<u.size
  ·have hn:=aV8 (neg:=false) (l:=C8 u) (.inr (.inr ⟨hhead,.inl c4⟩))
   rw[hn]at hv his
   have hv':v=0:=hv.symm
   have aq6:is=false:=his.symm
   subst hv' aq6
   have t4:1<(u.size:Int):=by omega
   have dO3:(u[0]).toNat=48:=by rw[hux];rfl
   clear hv his hn hlen c1 c2 hat hhead hrest
   go_enter Tryz.func45,Tryz.ntmps45
   go_wp2
   go_ret2
   exact⟨rfl,Below.refl _ _⟩
  ·exact hrest (by rintro⟨_,h|h⟩;exact c4 h;cases h) true (fe6 rfl) (fun _=>c4)
 ·have hne:((x.toNat:Int)==48)=false:=beq_eq_false_iff_ne.2 fun e=>c3 (UInt8.toNat_inj.1 (by show x.toNat=48;omega))
  exact hrest (by rintro⟨h,_⟩;rw[hhead]at h;exact c3 (Option.some.inj h)) false (fe6 hne) (fun h=>by cases h)
theorem cn6 (s u:ByteArray) (h0:0<s.size) (hx:s[0]=45) (hu:s.extract 1 s.size=u) (w:World) (v:Int) (is:Bool) (hv:(am9 (C8 u) true).getD 0=v) (his:(am9 (C8 u) true).isSome=is):
 Calls Tryz.prog 45 #[.string s] w (I1 w (.tuple #[.int .i64 v,.bool is])):=by
 have h0I:(0:Int)<(s.size:Int):=by omega
 have h1I:(1:Int)≤(s.size:Int):=by omega
 have hx2:(s[0]).toNat=45:=by rw[hx];rfl
 have hxl:=hx2
 have hlen:(C8 u).length=u.size:=rfl
 by_cases c1:u.size<1
 ·have hn:=aV8 (neg:=true) (l:=C8 u) (.inl c1)
  rw[hn]at hv his
  have hv':v=0:=hv.symm
  have aq6:is=false:=his.symm
  subst hv' aq6
  have t1:(u.size:Int)<1:=by omega
  skip
  clear hv his hn hlen c1
  go_enter Tryz.func45,Tryz.ntmps45
  go_wp2
  go_ret2
  exact⟨rfl,Below.refl _ _⟩
 have t1:¬(u.size:Int)<1:=by omega
 have u0:0<u.size:=by omega
 have u0I:(0:Int)<(u.size:Int):=by omega
 obtain⟨x,hat⟩:=At.mk (show 0<(C8 u).length from u0)
 have hux:=byte_at hat u0
 have hhead:(C8 u).head?=some x:=by rw[List.head?_eq_getElem?];exact hat
 have hx256:x.toNat<256:=x.toNat_lt
 skip
 by_cases c2:6<u.size
 ·have hn:=aV8 (neg:=true) (l:=C8 u) (.inr (.inl c2))
  rw[hn]at hv his
  have hv':v=0:=hv.symm
  have aq6:is=false:=his.symm
  subst hv' aq6
  have t2:6<(u.size:Int):=by omega
  clear hv his hn hlen c1 hat hhead
  go_enter Tryz.func45,Tryz.ntmps45
  go_wp2
  go_ret2
  exact⟨rfl,Below.refl _ _⟩
 have t2:¬6<(u.size:Int):=by omega
 have hu6:(u.size:Int)≤6:=by omega
 have hrest:¬((C8 u).head?=some 48∧(1<(C8 u).length∨true=true))→∀tt,Hid (((x.toNat:Int)==48)=tt)→(tt=true→¬1<u.size)→Calls Tryz.prog 45 #[.string s] w (I1 w (.tuple #[.int .i64 v,.bool is])):=by
  intro hz tt htt hone
  have hok:¬((C8 u).length<1∨6<(C8 u).length∨((C8 u).head?=some 48∧(1<(C8 u).length∨true=true))):=by
   rintro(h|h|h)
   ·exact c1 h
   ·exact c2 h
   ·exact hz h
  have hgood:=fun h=>cn4 (neg:=true) hok h
  have hbad:=fun(k:Nat) (y:UInt8) (h:At (C8 u) k y) (h2:W9 y=false)=>cF7 (neg:=true) hok h h2
  have h6:=fun(k:Nat) (hk:k≤u.size) (h:((C8 u).take k).all W9=true)=>cn3 h (show((C8 u).take k).length≤6 by rw[fg6];omega)
  have hfull:(C8 u).take u.size=C8 u:=fg7 (Nat.le_of_eq hlen)
  replace hgood:=fe6 hgood
  replace hbad:=fe6 hbad
  replace h6:=fe6 h6
  replace hv:=fe6 hv
  replace his:=fe6 his
  replace hfull:=fe6 hfull
  have hno:tt≠true:=fun e=>hz ⟨by rw[hhead];congr 1;rw[e]at htt;have:=beq_iff_eq.1 htt.out;exact UInt8.toNat_inj.1 (by show x.toNat=48;omega),.inr rfl⟩
  clear hok hz hhead hat hlen c1 c2
  cases tt
  case true=>exact absurd rfl hno
  all_goals
   have ht3:=htt.out
  clear hno
  all_goals
   clear htt hone
   go_enter Tryz.func45,Tryz.ntmps45
   go_wp2
   (try clear ht3)
   go_loopw [6,7] (fun n i wr=>∃k:Nat,k≤u.size∧i= .int .i64 (k:Int)∧n= .int .i64 (aA4 ((C8 u).take k))∧Hid (((C8 u).take k).all W9=true)∧wr=w) (fun _ i _=>u.size-(intOf i).toNat)
   case atStart=>exact⟨0,fh3 _,rfl,rfl,rfl,rfl⟩
   case round=>
    obtain⟨k,hk,rfl,rfl,hall,rfl⟩:=hrel
    have hk0:(0:Int)≤(k:Int):=by omega
    by_cases hlk:k<u.size
    ·obtain⟨y,hy⟩:=At.mk (show k<(C8 u).length from hlk)
     have huy:=byte_at hy hlk
     have hk1:(k:Int)<(u.size:Int):=by omega
     have ef5:y.toNat<256:=y.toNat_lt
     cases hd:W9 y
     ·have hn:=hbad.out k y hy hd
      have hv2:=hv.out
      have hi2:=his.out
      rw[hn]at hv2 hi2
      have hv':v=0:=hv2.symm
      have aq6:is=false:=hi2.symm
      have dp2:=fe6 hv'
      have cN9:=fe6 aq6
      clear hv' aq6 hv2 hi2 hn
      rcases dc7 hd with g|⟨g,g'⟩
      all_goals
       go_wp2
       go_ret2
       rw[dp2.out,cN9.out]
       exact⟨rfl,Below.refl _ _⟩
     ·have hyd:=ah8.1 hd
      have g1:¬(y.toNat:Int)<48:=by omega
      have g2:¬57<(y.toNat:Int):=by omega
      have g3:IntKind.u8.wrap ((y.toNat:Int)-48)=(y.toNat:Int)-48:=by simp[IntKind.wrap,IntKind.signed,IntKind.bits];omega
      have hb6:=h6.out k hk hall.out
      have hsn:=aZ2 ((C8 u).take k) y
      rw[←hy.take]at hsn
      have cO0:Hid (((C8 u).take (k+1)).all W9=true):=by show _=_;rw[hy.take,List.all_append,hall.out];simp[hd]
      generalize aA4 ((C8 u).take k)=n at*
      have g4:wrap64 (n*10)=n*10:=wrap64_in _ (by omega) (by omega)
      have g5:wrap64 (n*10+((y.toNat:Int)-48))=n*10+((y.toNat:Int)-48):=wrap64_in _ (by omega) (by omega)
      have g6:wrap64 ((y.toNat:Int)-48)=(y.toNat:Int)-48:=wrap64_in _ (by omega) (by omega)
      replace hsn:=fe6 hsn
      clear hd hyd hb6 hy
      go_wp2
      go_roundw
      case rel=>exact⟨k+1,hlk,by go_num,by rw[hsn.out];first|rfl|rw[g5],cO0,by first|rfl|trivial⟩
      case measure=>simp[intOf];omega
    ·have hke:k=u.size:=by omega
     subst hke
     have bj6:=hall.out
     rw[hfull.out]at bj6
     have hb6:=h6.out _ hk hall.out
     rw[hfull.out]at hb6 ⊢
     have hn:=hgood.out bj6
     have hv2:=hv.out
     have hi2:=his.out
     rw[hn]at hv2 hi2
     generalize aA4 (C8 u)=n at*
     have hv':v= -n:=hv2.symm
     have aq6:is=true:=hi2.symm
     subst hv' aq6
     have g4:wrap64 (-1*n)= -n:=by rw[show(-1*n)= -n by omega];exact wrap64_in _ (by omega) (by omega)
     clear hv his hn hv2 hi2 hgood hbad h6 bj6 hall hfull
     go_wp2
     go_ret2
     exact⟨rfl,Below.refl _ _⟩
 by_cases c3:x=48
 ·subst c3
  by_cases c4:1<u.size
  ·have hn:=aV8 (neg:=true) (l:=C8 u) (.inr (.inr ⟨hhead,.inl c4⟩))
   rw[hn]at hv his
   have hv':v=0:=hv.symm
   have aq6:is=false:=his.symm
   subst hv' aq6
   have t4:1<(u.size:Int):=by omega
   have dO3:(u[0]).toNat=48:=by rw[hux];rfl
   clear hv his hn hlen c1 c2 hat hhead hrest
   go_enter Tryz.func45,Tryz.ntmps45
   go_wp2
   go_ret2
   exact⟨rfl,Below.refl _ _⟩
  ·have hn:=aV8 (neg:=true) (l:=C8 u) (.inr (.inr ⟨hhead,.inr rfl⟩))
   rw[hn]at hv his
   have hv':v=0:=hv.symm
   have aq6:is=false:=his.symm
   subst hv' aq6
   have t4:¬1<(u.size:Int):=by omega
   have dO3:(u[0]).toNat=48:=by rw[hux];rfl
   clear hv his hn hlen c1 c2 hat hhead hrest
   go_enter Tryz.func45,Tryz.ntmps45
   go_wp2
   go_ret2
   exact⟨rfl,Below.refl _ _⟩
 ·have hne:((x.toNat:Int)==48)=false:=beq_eq_false_iff_ne.2 fun e=>c3 (UInt8.toNat_inj.1 (by show x.toNat=48;omega))
  exact hrest (by rintro⟨h,_⟩;rw[hhead]at h;exact c3 (Option.some.inj h)) false (fe6 hne) (fun h=>by cases h)
theorem aK3 (s:ByteArray) (w:World):Calls Tryz.prog 45 #[.string s] w (I1 w (.tuple #[.int .i64 (aV7 s),.bool (aq5 s)])):=by
 unfold aV7 aq5 O5
 split
 ·rename_i r hr
  have h0:0<s.size:=by rw[←be8,hr];simp
  have hx:=byte_at (s:=s) (k:=0) (x:=45) (by unfold At;rw[hr];rfl) h0
  refine cn6 s (J8 r) h0 hx ?_ w _ _ rfl rfl
  apply ah1
  rw[show C8 (s.extract 1 s.size)=((C8 s).drop 1).take (s.size-1)from by unfold C8;rw[ByteArray.data_extract,Array.toList_extract,List.extract_eq_take_drop],hr]
  refine fg7 ?_
  show r.length≤_
  have:s.size=r.length+1:=by rw[←be8,hr];rfl
  omega
 ·rename_i hno
  refine cn5 s (fun h e=> ?_) w _ _ rfl rfl
  cases hb:C8 s with
  |nil=>rw[←be8,hb]at h;exact absurd h (by simp)
  |cons a l=>
   have ha:=byte_at (s:=s) (k:=0) (x:=a) (by unfold At;rw[hb];rfl) h
   rw[ha]at e
   have:a=45:=UInt8.toNat_inj.1 e
   subst this
   exact hno l hb
end
section
theorem cn8:∀{s:List UInt8},Lib.index s [32]= -1→∀b∈s,b≠32
 |[],_,b,h=>by cases h
 |x::l,hi,b,hb=>by
  unfold Lib.index at hi
  by_cases hx:x=32
  ·subst hx
   rw[if_pos (by simp)]at hi;cases hi
  ·rw[if_neg (by simp;exact fun h=>hx h.symm)]at hi
   have hl:Lib.index l [32]= -1:=by
    have hge:=Lib.index_ge l [32]
    split at hi
    ·rename_i h;exact beq_iff_eq.1 h
    ·omega
   rcases List.mem_cons.1 hb with rfl|hb
   ·exact hx
   ·exact cn8 hl b hb
theorem cb1:∀{s:List UInt8} {i:Nat},Lib.index s [32]=(i:Int)→s=s.take i++32::s.drop (i+1)∧∀b∈s.take i,b≠32
 |[],i,hi=>by unfold Lib.index at hi;rw[if_neg (by simp)]at hi;omega
 |x::l,i,hi=>by
  unfold Lib.index at hi
  by_cases hx:x=32
  ·subst hx
   rw[if_pos (by simp)]at hi
   obtain rfl:i=0:=by omega
   exact⟨rfl,fun b hb=>by cases hb⟩
  ·rw[if_neg (by simp;exact fun h=>hx h.symm)]at hi
   have hge:=Lib.index_ge l [32]
   split at hi
   ·omega
   ·rename_i h
    have h':Lib.index l [32]≠-1:=fun e=>h (beq_iff_eq.2 e)
    obtain⟨j,rfl⟩:∃j,i=j+1:=⟨i-1,by omega⟩
    obtain⟨h1,h2⟩:=cb1 (s:=l) (i:=j) (by omega)
    refine⟨by rw[List.take_succ_cons,ff5,fg2,←h1],fun b hb=> ?_⟩
    rw[List.take_succ_cons]at hb
    rcases List.mem_cons.1 hb with rfl|hb
    ·exact hx
    ·exact h2 b hb
theorem cF9 (s:ByteArray) (a b:Nat):C8 (s.extract a b)=((C8 s).drop a).take (b-a):=by
 unfold C8
 rw[ByteArray.data_extract,Array.toList_extract,List.extract_eq_take_drop]
theorem bM0:∀(n:Nat) (s:ByteArray),s.size≤n→(Lib.splitB ⟨#[32]⟩ 0 (Lib.countB s ⟨#[32]⟩) s).map C8=R9 (C8 s)
 |n,s,hn=>by
  rcases Lib.indexB_cases s ⟨#[32]⟩with h|⟨i,h,hi⟩
  ·rw[Lib.countB_miss _ _ h,Lib.splitB_zero]
   exact(aF1 (a:=C8 s) (cn8 h)).symm
  ·have hi':i+1≤s.size:=hi
   obtain⟨h1,h2⟩:=cb1 (s:=C8 s) h
   rw[Lib.countB_hit s ⟨#[32]⟩ i (by decide) h,Nat.add_comm 1,Lib.splitB_hit _ _ _ _ i h,List.map_cons]
   have hsz:s.size=(C8 s).length:=by unfold C8;simp
   have e1:C8 (s.extract 0 (i+0))=(C8 s).take i:=by rw[cF9];simp
   have e2:C8 (s.extract (i+1) s.size)=(C8 s).drop (i+1):=by
    rw[cF9]
    exact fg7 (by rw[List.length_drop,←hsz];exact fh0 _)
   have hlt:(s.extract (i+1) s.size).size<n:=by
    have h5:(s.extract (i+1) s.size).size=(C8 (s.extract (i+1) s.size)).length:=by unfold C8;simp
    rw[h5,e2,List.length_drop,←hsz];omega
   match n,hlt with
   |n+1,hlt=>
    have ih:=bM0 n (s.extract (i+1) s.size) (by omega)
    show C8 (s.extract 0 (i+0))::(Lib.splitB _ 0 (Lib.countB (s.extract (i+1) s.size) _) (s.extract (i+1) s.size)).map C8=_
    rw[ih,e1,e2]
    conv=>rhs;rw[h1,bi7,aF1 h2]
    rfl
theorem cn9 (s:ByteArray):Lib.splitB ⟨#[32]⟩ 0 (Lib.countB s ⟨#[32]⟩) s=C9 s:=by
 unfold C9
 rw[←bM0 s.size s (fh0 _),List.map_map]
 conv=>lhs;rw[←List.map_id (Lib.splitB ⟨#[32]⟩ 0 (Lib.countB s ⟨#[32]⟩) s)]
 rfl
end
section
open Go.RowKit Go.ChangeShapes Go.WideShapes Go.Deep Go.Joins
section
variable {H:Type} {enc:TypeId × Value→H} {W:World} {sp:Nat→Bool} {hd:Bool}
theorem cb2:reachBytes≤140737488355328:=by decide
theorem cG0 (n:Nat) (cs:List Value) (y:DataW H × List MemPlace) (h:DataW.trod enc Tryz.prog W 0 sp hd n 9 cs=some y) (hw:∀k∈y.1.weights Tryz.prog 9,k≤reachBytes):∃x:ByteArray,Enc.rep (ad6 W) x cs:=by
 obtain⟨s,rfl,rfl,_⟩:=DataW.trod_string Tryz.underlying9 h
 have h1:=hw s.data.toList.length (by simp[DataW.weights])
 exact⟨s,rfl,fh1 (show s.size≤reachBytes by simpa using h1) cb2⟩
theorem bo8 {n:Nat} {v:Value} {y:DataW H × List MemPlace} (h:DataW.trod enc Tryz.prog W 0 sp hd n 33 [v]=some y) (hw:∀k∈y.1.weights Tryz.prog 33,k≤reachBytes):∃xs:List ByteArray,Sl (ad6 W) v xs:=
 Sl.opened Tryz.underlying33 (by kernel_rfl) (by decide) (by kernel_rfl) (fun n cs y h hw=>cG0 n cs y h hw) h hw
theorem dO5 (n:Nat) (cs:List Value) (y:DataW H × List MemPlace) (h:DataW.trod enc Tryz.prog W 0 sp hd n 96 cs=some y):∃x:Mld,Enc.rep (ad6 W) x cs:=by
 obtain⟨y0,y1,y2,m,_,hl,h0,h1,h2⟩:=trod_struct3 Tryz.underlying96 h
 obtain⟨a,b,c,rfl⟩:=three (hl.trans (by kernel_rfl))
 simp only[bt5,ff6,ff5,List.take_succ_cons,List.take_zero]at h0 h1 h2
 obtain⟨k0,e0,_,w0⟩:=DataW.trod_int Tryz.underlying3 h0
 obtain⟨k1,e1,_,w1⟩:=DataW.trod_int Tryz.underlying3 h1
 obtain⟨k2,e2,_,w2⟩:=DataW.trod_int Tryz.underlying3 h2
 simp at e0 e1 e2
 subst e0;subst e1;subst e2
 exact⟨⟨k0,k1,k2⟩,rfl,ah7 w0,ah7 w1,ah7 w2⟩
theorem cA2 {n:Nat} {v:Value} {y:DataW H × List MemPlace} (h:DataW.trod enc Tryz.prog W 0 sp hd n 27 [v]=some y) (hw:∀k∈y.1.weights Tryz.prog 27,k≤reachBytes):∃xs:List Mld,Sl (ad6 W) v xs:=
 Sl.opened Tryz.underlying27 (by kernel_rfl) (by decide) (by kernel_rfl) (fun n cs y h _=>dO5 n cs y h) h hw
theorem dO6 {α:Type} {cs:Array α} (h:cs.size=8):∃a b c d e f g i,cs= #[a,b,c,d,e,f,g,i]:=by
 obtain⟨l⟩:=cs
 match l,h with
 |[a,b,c,d,e,f,g,i],_=>exact⟨a,b,c,d,e,f,g,i,rfl⟩
theorem bU5:Tryz.prog.cellsOf 22=1∧Tryz.prog.cellsOf 23=1∧Tryz.prog.cellsOf 24=1∧Tryz.prog.cellsOf 27=1∧Tryz.prog.cellsOf 28=1∧Tryz.prog.cellsOf 3=1∧Tryz.prog.cellsOf 26=4∧Tryz.prog.cellsOf 30=4:=⟨by kernel_rfl,by kernel_rfl,by kernel_rfl,by kernel_rfl,by kernel_rfl,by kernel_rfl,by kernel_rfl,by kernel_rfl⟩
theorem aO1 {r:Reach} {b0:Nat} {v:Value} {d:DataW H} {p:List MemPlace} (hv:Value.okWide Tryz.prog W r b0 32 v) (h:DataW.Trod enc Tryz.prog W 0 sp hd 32 v d p)
 (hw:∀k∈d.weights Tryz.prog 32,k≤reachBytes):∃vm vb vt um uo ua t,v=ah0 vm vb vt um uo ua t∧Twn (ad6 W) vm vb vt um uo ua t:=by
 obtain⟨q1,q2,q3,q4,q5,q6,q7,q8⟩:=bU5
 obtain⟨cs,rfl,hsz⟩:=okWide_struct Tryz.underlying32 hv
 obtain⟨c0,c1,c2,c3,c4,c5,c6,c7,rfl⟩:=dO6 (hsz.trans (by kernel_rfl))
 obtain⟨fuel,hf⟩:=h
 obtain⟨y0,y1,n,ex,_,h0,h1⟩:=trod_struct2 Tryz.underlying32 hf
 simp only[Value.cells,q7,q8,ff6,ff5,List.take_succ_cons,List.take_zero]at h0 h1
 obtain⟨a0,a1,a2,a3,m,e0,_,i0,i1,i2,i3⟩:=trod_struct4 Tryz.underlying26 h0
 obtain⟨b0',b1,b2,b3,m',e1,_,j0,j1,j2,j3⟩:=trod_struct4 Tryz.underlying30 h1
 simp only[q1,q2,q3,q4,q5,q6,fh6,ff6,ff5,List.take_succ_cons,List.take_zero]at i0 i1 i2 i3 j0 j1 j2 j3
 subst e0;subst e1
 obtain⟨rfl,-⟩:=Prod.mk.inj ex
 simp only[DataW.weights,Tryz.underlying32,Tryz.underlying26,Tryz.underlying30,List.map_cons,List.map_nil,DataW.weightsEach,List.mem_append,List.append_nil]at hw
 obtain⟨ms,i0⟩:=cl5 i0 (fun k hk=>hw k (by simp[hk]))
 obtain⟨bs,i1⟩:=cl6 i1 (fun k hk=>hw k (by simp[hk]))
 obtain⟨ts,i2⟩:=bd4 i2 (fun k hk=>hw k (by simp[hk]))
 obtain⟨mo,j0⟩:=cA2 j0 (fun k hk=>hw k (by simp[hk]))
 obtain⟨wo,j1⟩:=cl7 j1 (fun k hk=>hw k (by simp[hk]))
 obtain⟨wa,j2⟩:=bd4 j2 (fun k hk=>hw k (by simp[hk]))
 obtain⟨k0,e0,_,hc⟩:=DataW.trod_int Tryz.underlying3 i3
 obtain⟨k1,e1,_,hc1⟩:=DataW.trod_int Tryz.underlying3 j3
 simp at e0 e1
 subst e0;subst e1
 exact⟨c0,c1,c2,c4,c5,c6,⟨⟨ms,bs,ts,k0⟩,⟨mo,wo,wa,k1⟩⟩,rfl,⟨⟨i0,i1,i2,ah7 hc⟩,⟨j0,j1,j2,ah7 hc1⟩⟩⟩
theorem bj7 {P:Program} {t:TypeId} {s:ByteArray} (hw:∀k∈(DataW.lit (H:=H) (.string s.data.toList)).weights P t,k≤reachBytes):s.size≤140737488355328:=by
 have h1:=hw s.data.toList.length (by simp[DataW.weights])
 exact fh1 (show s.size≤reachBytes by simpa using h1) cb2
end
end
section
open Go.RowKit
def FW (r:Option Nat):Fence:={fn:=fun _=>True,depth:=none,alive:=false,round:=r}
theorem Calls.wide {r:Option Nat} {n:Nat} {P:Program} {f:FuncId} {args:Array Value} {w:World} {R:Ending→World→Prop} (h:Calls P f args w R):CallsIn (FW r) n P f args w R:=
 (callsIn_wide (n:=n)).2 h
theorem aV9 {r:Option Nat} {n:Nat}:(FW r).depth.isSome=true→1≤n:=fun h=>by cases h
section
variable {P:Program} {ops:Array Oper} {md:Region.Mode} {C:World→Prop} {r:Option Nat} {k:Nat}
def aD7 (ops:Array Oper):Bool:=ops.toList.all fun o=>match o.op with| .defer _=>false|_=>true
theorem bu2 (h:aD7 ops=true) {i:Nat} {o:Oper} (hi:ops[i]? =some o) (c:Call):o.op≠ .defer c:=by
 intro e
 have:=List.all_eq_true.1 h o (by simpa using Array.mem_of_getElem? hi)
 rw[e]at this;cases this
theorem bU6 {o:Oper} {a:Act} {K:Act→Prop} {K':Act→World→Prop} {Q':Exit→Act→World→Prop} {w:World} (hnd:∀c,o.op≠ .defer c) (hw:C w) (h:∀a w',C w'→K a→K' a w')
 (hh:o.quiet P a C K):o.wpIn (FW r) k P a w K' Q':=by
 obtain⟨v,h1,h2⟩:=hh
 have h3:=h1 w hw
 unfold Oper.quietAt at h3
 unfold Oper.wpIn
 refine⟨fun _ _=>trivial, ?_⟩
 rw[Oper.semAt_eq _ _ _ hnd]
 generalize(execOp a.eval o).run P w=res at*
 cases res with
 |ok x w'=>
  cases x<;>simp only[Oper.quietUpon]at h3<;>simp only[Oper.uponIn]
  case value u=>obtain⟨e1,e2⟩:=h3;rw[e1,e2];exact h _ _ hw h2
  case skip=>obtain⟨e1,e2⟩:=h3;rw[e1,←e2];exact h _ _ hw h2
  case enter f args=>
   obtain⟨e1,hc⟩:=h3
   rw[e1]
   exact⟨aV9,(Calls.wide hc).mono fun e w'' ⟨he,hw''⟩=>by subst he;exact h _ _ hw'' h2⟩
 |halt x w'=>simp only[Oper.quietUpon]at h3
theorem bf3 {i:Nat} {a:Act} {K:Act→Prop} {K':Act→World→Prop} {Q':Exit→Act→World→Prop} {w:World} (hnd:aD7 ops=true) (hC:C w) (h:∀a w',C w'→K a→K' a w')
 (hh:qOp P ops C i K a):wpOpIn (FW r) k P ops Q' i K' a w:=by
 unfold qOp at hh
 unfold wpOpIn
 split
 ·rename_i ho;simp only[ho]at hh;exact h _ _ hC hh
 ·rename_i o ho
  simp only[ho]at hh
  split
  ·rename_i hw;simp only[hw,if_true]at hh;exact bU6 (bu2 hnd ho) hC h hh
  ·rename_i hw;simp only[hw]at hh;exact⟨fun _ _=>trivial,h _ _ hC hh⟩
theorem aR5 {Q:Act→Prop} {Q':Exit→Act→World→Prop} (hnd:aD7 ops=true) (hQ:∀a w,C w→Q a→Q' .normal a w):∀(fuel:Nat) (listed:Array Bool) (a:Act) (w:World),C w→
 wpAnyQ P md ops C Q fuel listed a→wpAnyIn (FW r) k P md ops Q' fuel listed a w
 |0,_,_,_,hw,h=>⟨h.1,hQ _ _ hw h.2⟩
 |fuel+1,_,_,_,hw,h=>⟨fun h0=>hQ _ _ hw (h.1 h0),fun i hi=>bf3 hnd hw (fun a' w' hw'=>aR5 hnd hQ fuel _ a' w' hw') (h.2 i hi)⟩
theorem as5 {id:Nat} {Q:Exit→Act→World→Prop} {a:Act} {w:World} {l:List Oper} (hm:P.follows .mixedOrders=true) (hB:Region.lexB .any l.toArray=true) (hnd:aD7 l.toArray=true) (hC:C w.drew)
 (h:wpQuiet P l.toArray C (fun a'=>∀w',C w'→Q .normal a' w') l a):(Code.region id l.toArray true).wpIn (FW r) k P Q a w:=by
 simp only[Region.lexB,fh9]at hB
 refine wpIn_region_any hm (aR5 (Q:=fun a'=>∀w',C w'→Q .normal a' w') hnd (fun _ w' hw' h=>h w' hw') _ _ _ _ hC ?_)
 have:=wpAnyQ_lex (C:=C) (md:= .any) hB.1 l 0 (Array.replicate l.toArray.size false) a (by simp) (by simpa using hB.2) h
 simpa using this
def hdQ (P:Program) (md:Region.Mode) (ops:Array Oper) (C:World→Prop) (n:Nat) (L:Array Bool→Act→Prop):Nat→Array Bool→Act→Prop
 |0,listed,a=>L listed a
 |f+1,listed,a=>Region.ready md ops listed≠[]∧∀i∈Region.ready md ops listed,i<n∧qOp P ops C i (hdQ P md ops C n L f (listed.setIfInBounds i true)) a
theorem bf4 {n g:Nat} {L:Array Bool→Act→Prop} {Q':Exit→Act→World→Prop} (hnd:aD7 ops=true) (hL:∀listed a w,C w→L listed a→wpAnyIn (FW r) k P md ops Q' g listed a w):
 ∀(f:Nat) (listed:Array Bool) (a:Act) (w:World),C w→hdQ P md ops C n L f listed a→wpAnyIn (FW r) k P md ops Q' (f+g) listed a w
 |0,listed,a,w,hC,h=>by rw[Nat.zero_add];exact hL _ _ _ hC h
 |f+1,listed,a,w,hC,h=>by
  rw[show f+1+g=(f+g)+1 by omega]
  exact⟨fun h0=>absurd h0 h.1,fun i hi=>bf3 hnd hC (fun a' w' hw' h'=>bf4 hnd hL f _ a' w' hw' h') (h.2 i hi).2⟩
theorem dd2 {n i:Nat} {oi:Oper} {v:Value} {L:Array Bool→Act→Prop} (hi:ops[i]? =some oi) (hsel:∀(j:Nat) (o:Oper) cs b,ops[j]? =some o→o.op≠ .select cs b)
 (hs:Region.sinkB md ops n=true) (hc:Region.chainB md ops n=true) (hn:n<ops.size) (hin:i<n) (hdone:∀listed a,L listed a→∀j∈Region.ready md ops listed,n≤j):
 ∀(f:Nat) (listed:Array Bool) (a:Act),HeadInv md ops n listed→
  (∀j oj,ops[j]? =some oj→j≠i→listed.getD j true=false→(∀e∈oj.after,Region.binds md e=true→e.on≠i)→oi.apart ops oj=true)→
  i∈Region.ready md ops listed→YieldsIn P ops C oi v a→
  hdQ P md ops C n L f (listed.setIfInBounds i true) (a.put oi.dst v)→hdQ P md ops C n L (f+1) listed a:=by
 intro f
 induction f with
 |zero=>
  intro listed a inv _ hr hy H
  have hun:=(mem_ready.1 hr).1
  refine⟨fun h=>(by rw[h]at hr;cases hr),fun j hj=> ?_⟩
  have hjn:j<n:=Nat.lt_of_not_le fun h=>tail_waits hs hc hn inv _ i rfl hin hun j h hj
  refine⟨hjn, ?_⟩
  by_cases hji:j=i
  ·subst hji;exact hy.qOp hi H
  ·have:=hdone _ _ H j (ready_mono hj hji);omega
 |succ f ih=>
  intro listed a inv hfree hr hy H
  have hun:=(mem_ready.1 hr).1
  refine⟨fun h=>(by rw[h]at hr;cases hr),fun j hj=> ?_⟩
  have hjn:j<n:=Nat.lt_of_not_le fun h=>tail_waits hs hc hn inv _ i rfl hin hun j h hj
  refine⟨hjn, ?_⟩
  by_cases hji:j=i
  ·subst hji;exact hy.qOp hi H
  ·obtain⟨hjun,oj,hoj,hall⟩:=mem_ready.1 hj
   have hnot:∀e∈oj.after,Region.binds md e=true→e.on≠i:=fun e he hb heq=>by
    have:=hall e he hb
    rw[heq,getD_both hun]at this;cases this
   have h2:=qOp_put hoj (hfree j oj hoj hji hjun hnot) (fun cs b=>hsel i oi cs b hi) (fun cs b=>hsel j oj cs b hoj) hy (H.2 j (ready_mono hj hji)).2
   refine qOp_mono (fun a' h3=>ih (listed.setIfInBounds j true) a' (inv.set hj hjn) (fun q oq hq hqi cl0 hno=>hfree q oq hq hqi ?_ hno) (ready_mono hr (Ne.symm hji)) h3.1 ?_) h2
   ·by_cases hjq:j=q
    ·subst hjq;exact hjun
    ·rw[getD_set_ne true hjq]at cl0;exact cl0
   ·rw[Array.setIfInBounds_comm _ _ hji];exact h3.2
theorem cG1 {n g:Nat} {Lq:Act→Prop} (hsel:Region.noSelect ops=true) (hs:Region.sinkB md ops n=true) (hc:Region.chainB md ops n=true) (hn:n<ops.size):
 ∀(l:List Oper) (j:Nat) (listed:Array Bool) (a:Act),(∀i,i<l.length→l[i]? =ops[j+i]?)→j+l.length=n→HeadInv md ops n listed→
 Region.lexHead md ops g l.length j listed=true→wpQuiet P ops C Lq l a→
 hdQ P md ops C n (fun listed' a'=>Region.seqB md ops g n listed'=true∧Lq a') l.length listed a
 |[],j,listed,a,_,hk,_,hB,h=>by
  have:j=n:=by simpa using hk
  subst this
  exact⟨by simpa [Region.lexHead]using hB,h⟩
 |o::l,j,listed,a,hl,hk,inv,hB,h=>by
  have h0:ops[j]? =some o:=by simpa using(hl 0 (by simp)).symm
  simp only[ff8,Region.lexHead,fh9]at hB hk
  obtain⟨⟨hr,hf⟩,hB'⟩:=hB
  have hkn:j<n:=by omega
  have hr':j∈Region.ready md ops listed:=by simpa using hr
  obtain⟨v,hy,hK⟩:=yieldsIn_of_qOp (C:=C) (K:=wpQuiet P ops C Lq l) h0 (by unfold qOp;simp only[h0];exact h)
  exact dd2 h0 (Region.noSelect_spec hsel) hs hc hn hkn (fun listed' a' hL=>seqB_ready hL.1) l.length listed a inv (Region.free_spec h0 hf) hr' hy
   (cG1 hsel hs hc hn l (j+1) _ _ (fun i hi=>by have:=hl (i+1) (by simp;omega);simpa [Nat.add_assoc,Nat.add_comm 1 i]using this) (by omega) (inv.set hr' hkn) hB' hK)
theorem bf5 {Q':Exit→Act→World→Prop}:∀(l:List Oper) (j:Nat) (listed:Array Bool) (a:Act) (w:World),(∀i,l[i]? =ops[j+i]?)→
 Region.seqB md ops l.length j listed=true→wpListIn (FW r) k P ops Q' l a w→wpAnyIn (FW r) k P md ops Q' l.length listed a w
 |[],_,_,_,_,_,hB,h=>⟨by simpa [Region.seqB]using hB,h⟩
 |o::l,j,listed,a,w,hl,hB,h=>by
  have h0:ops[j]? =some o:=by simpa using(hl 0).symm
  simp only[ff8,Region.seqB,fh9,decide_eq_true_eq]at hB
  refine⟨fun h1=>(by rw[hB.1]at h1;cases h1),fun i hi=> ?_⟩
  rw[hB.1]at hi
  obtain rfl:i=j:=by simpa using hi
  have hw:wpOpIn (FW r) k P ops Q' i (wpListIn (FW r) k P ops Q' l) a w:=by unfold wpOpIn;simp only[h0];exact h
  exact wpOpIn_mono (fun a' w' h'=>bf5 l (i+1) _ a' w' (fun q=>by have:=hl (q+1);simpa [Nat.add_assoc,Nat.add_comm 1 q]using this) hB.2 h') hw
theorem X0 {id:Nat} {Q:Exit→Act→World→Prop} {a:Act} {w:World} {l:List Oper} (n:Nat) (hm:P.follows .mixedOrders=true) (hB:Region.lexTailB .any l.toArray n=true) (hnd:aD7 l.toArray=true) (hC:C w.drew)
 (h:wpQuiet P l.toArray C (fun a'=>∀w',C w'→wpListIn (FW r) k P l.toArray Q (l.drop n) a' w') (l.take n) a):(Code.region id l.toArray true).wpIn (FW r) k P Q a w:=by
 simp only[Region.lexTailB,fh9,decide_eq_true_eq]at hB
 obtain⟨⟨⟨⟨hsel,hn⟩,hs⟩,hc⟩,hlex⟩:=hB
 have hn':n<l.length:=by simpa using hn
 have htl:(l.take n).length=n:=by simp;omega
 have hdl:(l.drop n).length=l.toArray.size-n:=by simp
 have inv0:HeadInv .any l.toArray n (Array.replicate l.toArray.size false):=
  ⟨by simp,fun j oj _ hl=>(by rw[getD_replicate_false]at hl;cases hl),fun t _ ht=>getD_in (by simpa using ht) (getD_replicate_false _ _)⟩
 have H:=cG1 (md:= .any) (g:=l.toArray.size-n) hsel hs hc hn (l.take n) 0 _ a (fun j hj=>by
  have hj':j<n:=by rw[htl]at hj;exact hj
  simp[hj']) (by simpa using htl) inv0 (by rw[htl];exact hlex) h
 refine wpIn_region_any hm ?_
 have:=bf4 (r:=r) (k:=k) (Q':=Q) (g:=l.toArray.size-n) hnd (fun listed a' w' hC' hL=>by
  have:=bf5 (r:=r) (k:=k) (md:= .any) (Q':=Q) (l.drop n) n listed a' w' (fun j=>by simp[List.getElem?_drop]) (by rw[hdl];exact hL.1) (hL.2 w' hC')
  rwa [hdl]at this) _ _ _ w.drew hC H
 rw[htl,show n+(l.toArray.size-n)=l.toArray.size by omega]at this
 exact this
end
end
section
open Go.RowKit
structure Q6 (n0:Nat) (W:World) (H:j5) (W':World) (H':j5):Prop where
 below:Below n0 W W'
 keep:∀b cs t fr,W.heap[b]? =some (.cells cs t fr)→H b=none→W'.heap[b]? =some (.cells cs t fr)∧H' b=none
 same:∀b,b<n0→H' b=H b
 holds:j4 H' W'
theorem Q6.refl {n0:Nat} {W:World} {H:j5} (h:j4 H W):Q6 n0 W H W H:=⟨Below.refl _ _,fun _ _ _ _ e h=>⟨e,h⟩,fun _ _=>rfl,h⟩
theorem Q6.mono {n0 n1:Nat} {W W':World} {H H':j5} (h:Q6 n1 W H W' H') (hn:n0≤n1):Q6 n0 W H W' H':=
 ⟨h.below.mono hn,h.keep,fun b hb=>h.same b (fh4 hb hn),h.holds⟩
theorem Q6.drew {n0:Nat} {W W':World} {H H':j5} (h:Q6 n0 W H W' H'):Q6 n0 W H W'.drew H':=⟨h.below.drew,h.keep,h.same,h.holds.drew⟩
theorem Q6.ext {n0:Nat} {W W':World} {H:j5} (h:j4 H W) (hb:Below W.heap.size W W') (hn:n0≤W.heap.size):Q6 n0 W H W' H:=
 ⟨hb.mono hn,fun b _cs _t _fr e hh=>⟨(hb.block b (Array.getElem?_eq_some_iff.1 e).1).trans e,hh⟩,fun _ _=>rfl,h.below hb⟩
theorem Q6.at {n0 b:Nat} {W W':World} {H:j5} {o:Obj} (h:j4 H W) (hn:n0≤b) (hin:H b≠none∨W.heap.size≤b∨∃o':Obj,W.heap[b]? =some o'∧o'.isCells=false)
 (hB:Below n0 W W') (hoth:∀k,k<W.heap.size→k≠b→W'.heap[k]? =W.heap[k]?) (hat:W'.heap[b]? =some o):Q6 n0 W H W' (H.put b o):=by
 refine⟨hB,fun k cs t fr e hk=> ?_,fun k hk=>j5.F3 _ _ (by omega),⟨fun k o' ek=> ?_⟩⟩
 ·have hlt:=(Array.getElem?_eq_some_iff.1 e).1
  have hne:k≠b:=by
   rintro rfl
   rcases hin with hin|hin|⟨o',ho,hc⟩
   ·exact hin hk
   ·omega
   ·rw[e]at ho;cases ho;cases hc
  exact⟨(hoth k hlt hne).trans e,by rw[j5.F3 _ _ hne];exact hk⟩
 ·by_cases hkb:k=b
  ·subst hkb;rw[j5.G7]at ek;cases ek;exact hat
  ·rw[j5.F3 _ _ hkb]at ek
   exact(hoth k (h.lt ek) hkb).trans (h.at_ _ _ ek)
def Abides {β:Type} (n0:Nat) (J:j5→β→World→Prop):Prop:=∀H s W H' W',J H s W→j4 H W→Q6 n0 W H W' H'→J H' s W'
theorem Abides.and {β:Type} {n0:Nat} {J K:j5→β→World→Prop} (h:Abides n0 J) (k:Abides n0 K):Abides n0 (fun H s W=>J H s W∧K H s W):=fun H s W H' W' hj hh ht=>⟨h H s W H' W' hj.1 hh ht,k H s W H' W' hj.2 hh ht⟩
theorem Abides.pure {β:Type} {n0:Nat} (p:β→Prop):Abides n0 (fun _ (s:β) _=>p s):=fun _ _ _ _ _ hj _ _=>hj
theorem Q6.an1 {n0:Nat} {w0 W W':World} {H0 H H':j5} (h:Ext w0 H0 W H) (ht:Q6 n0 W H W' H') (hn:w0.heap.size≤n0):Ext w0 H0 W' H':=
 ⟨h.below.trans (ht.below.mono hn),ht.holds,fun b hb=>(ht.same b (by omega)).trans (h.same b hb)⟩
structure Cell (H:j5) (W:World) (base B:Nat) (t:TypeId) (v:Value):Prop where
 at_:W.heap[B]? =some (.cells #[v] t (0,0))
 free:H B=none
 base:base≤B
section
variable {H H':j5} {W W':World} {base B n0:Nat} {t:TypeId} {v:Value}
theorem Cell.lt (h:Cell H W base B t v):B<W.heap.size:=(Array.getElem?_eq_some_iff.1 h.at_).1
theorem Cell.cell (h:Cell H W base B t v):W.cell? ⟨B,0,none⟩=some v:=by simp[World.cell?,h.at_]
theorem Cell.fz (h:Cell H W base B t v):W.frozen? ⟨B,0,none⟩=false:=by simp[World.frozen?,h.at_]
theorem Cell.turn (h:Cell H W base B t v) (ht:Q6 n0 W H W' H'):Cell H' W' base B t v:=
 let ⟨e,hn⟩:=ht.keep _ _ _ _ h.at_ h.free;⟨e,hn,h.base⟩
theorem Cell.set (h:Cell H W base B t v) (u:Value):Cell H (W.setCell ⟨B,0,none⟩ u) base B t u:=
 ⟨by have:=Q4 (i:=0) h.at_ u;simpa using this,h.free,h.base⟩
theorem Cell.other (h:Cell H W base B t v) {a:Addr} (ha:a.block≠B) (u:Value):Cell H (W.setCell a u) base B t v:=
 ⟨(Below.heap_setCell _ _ _ _ (Ne.symm ha)).trans h.at_,h.free,h.base⟩
theorem Cell.drew (h:Cell H W base B t v):Cell H W.drew base B t v:=⟨h.at_,h.free,h.base⟩
theorem Cell.alloc (h:Cell H W base B t v) (o:Obj):Cell H (W.alloc o) base B t v:=⟨(heap_alloc_old W o h.lt).trans h.at_,h.free,h.base⟩
theorem Cell.below (h:Cell H W base B t v) (hb:Below W.heap.size W W'):Cell H W' base B t v:=⟨(hb.block _ h.lt).trans h.at_,h.free,h.base⟩
theorem Cell.snap (h:Cell H W base B t v) (hn:H' B=none):Cell H' W base B t v:=⟨h.at_,hn,h.base⟩
theorem Cell.new (hw:j4 H W) (hb:base≤W.heap.size) (hB:B=W.heap.size) (v:Value):Cell H (W.alloc (.cells #[v] t)) base B t v:=by
 subst hB
 exact⟨heap_alloc_new _ _,hw.D6 (fh0 _),hb⟩
end
theorem Cell.abides {β:Type} {n0 base B:Nat} {t:TypeId} (f:β→Value):Abides n0 (fun H (s:β) W=>Cell H W base B t (f s)):=fun _ _ _ _ _ h _ ht=>h.turn ht
theorem Ext.abides {β:Type} {n0:Nat} {w0:World} {H0:j5} (hn:w0.heap.size≤n0):Abides n0 (fun H (_:β) W=>Ext w0 H0 W H):=fun _ _ _ _ _ h _ ht=>ht.an1 h hn
def Iter {α:Type} (P:Program) (gf:FuncId) (lb:Array Value) (enc:j5→α→Array Value→Prop) (xs:List α) (w:World) (H:j5):Prop:=
 ∀(l:Nat) (J Jx:j5→List α→World→Prop) (W:World) (HW:j5),Ext w H W HW→Abides W.heap.size J→Abides W.heap.size Jx→
  (∀Hc pre x W1 args m,j4 Hc W1→D8 HW Hc→J Hc pre W1→enc Hc x args→pre++[x]<+:xs→
   YieldAt (FW none) m P l args W1 fun e W'=>j4 Hc W'∧W.heap.size≤W'.heap.size∧((e= .returned (.bool true)∧J Hc (pre++[x]) W')∨(e= .returned (.bool false)∧Jx Hc (pre++[x]) W')))→
  J HW [] W→
  Calls P gf (#[.func (.yield l) #[] #[]]++lb) W fun e W'=>(∃v,e= .returned v)∧∃Hc,j4 Hc W'∧D8 HW Hc∧(J Hc xs W'∨∃pre,pre<+:xs∧Jx Hc pre W')
def co1 {α:Type} (J:j5→List α→World→Prop) (Jx:Code→j5→List α→World→Prop) (H:j5) (xs:List α):Exit→Act→World→Prop
 | .normal,_,W=>j4 H W∧J H xs W
 | .ret,_,W=>j4 H W∧Jx .ret H xs W
 | .exit id,_,W=>j4 H W∧Jx (.exit id) H xs W
 | .goto t,_,W=>j4 H W∧Jx (.goto t) H xs W
 | .panic _,_,_=>False
 | .outgrown,_,_=>False
section
variable {P:Program} {α:Type} {ps:Array Tmp} {assign body:Code} {a:Act} {n0 l:Nat} {r:Loop} {H:j5}
 {enc:j5→α→Array Value→Prop} {xs:List α}
 {J:j5→List α→World→Prop} {Jx:Code→j5→List α→World→Prop} {J2:j5→List α→α→Array Value→Act→World→Prop}
theorem aA0 {W:World} {Hc Hc':j5} {o o':Obj} (hw:j4 Hc W) (hl:W.heap[l]? =some o) (ho:o.isCells=false) (hn:n0≤l) (hc:∀k,k≠l→Hc' k=Hc k) (hc':Hc' l=none∨Hc' l=some o'):Q6 n0 W Hc (W.putObj l o') Hc':=by
 have hlt:=(Array.getElem?_eq_some_iff.1 hl).1
 refine⟨(Below.refl _ _).grown (grownBy_putObj' W l o') (by omega) (fun k e=>by cases e;exact hn),fun b cs t fr e hb=> ?_,fun b hb=>hc b (by omega),⟨fun k o2 ek=> ?_⟩⟩
 ·have hne:b≠l:=by rintro rfl;rw[e]at hl;cases hl;cases ho
  exact⟨(World.putObj_heap_other hne).trans e,by rw[hc b hne];exact hb⟩
 ·by_cases hk:k=l
  ·subst hk
   rcases hc' with h|h
   ·rw[h]at ek;cases ek
   ·rw[h]at ek;cases ek;exact World.putObj_heap_same hlt
  ·rw[hc k hk]at ek
   exact(World.putObj_heap_other hk).trans (hw.at_ _ _ ek)
theorem cb3 {gf:FuncId} {lb:Array Value} {W1:World} {H1:j5} {k:Nat} (hr1:r.params=ps) (hr2:r.assign=assign) (hr3:r.body=body) (hr4:r.tmps=a.tmps) (hr5:r.state= .ready) (hr6:r.pending=none)
 (hit:Iter P gf lb enc xs W1 H1) (hw1:j4 H1 W1) (hsz:W1.heap.size=l+1) (hl:W1.heap[l]? =some (.loop r)) (hln:H1 l=none) (hn0:n0≤l) (hps:∀Hc x args,enc Hc x args→args.size=ps.size) (henc:∀A B x args,D8 A B→enc A x args→enc B x args)
 (hle:D8 H H1) (hJ:Abides n0 J) (hJx:∀c,Abides n0 (Jx c)) (hJ2:∀x args a1,Abides n0 (fun Hc pre W=>J2 Hc pre x args a1 W)) (h0:J H1 [] W1)
 (hassign:∀Hc pre x W args,j4 Hc W→D8 H Hc→J Hc pre W→enc Hc x args→pre++[x]<+:xs→
  assign.wpIn (FW (some l)) k P (Exit.then (fun a1 W2=>j4 Hc W2∧J2 Hc pre x args a1 W2) (fun _ _ _=>False)) {tmps:=(ps.zip args).foldl (fun t (p,v)=>t.setIfInBounds p v) a.tmps,defers:=[]} W)
 (hbody:∀rc Hc pre x args a1 W,W.heap[l]? =some (.loop rc)→j4 Hc W→D8 H Hc→enc Hc x args→pre++[x]<+:xs→J2 Hc pre x args a1 W→body.wpIn (FW (some l)) k P (co1 J Jx Hc (pre++[x])) a1 W):
 Calls P gf (#[.func (.yield l) #[] #[]]++lb) W1 fun e W'=>(∃v,e= .returned v)∧∃Hc,j4 Hc W'∧D8 H1 Hc∧
  ((J Hc xs W'∧Hc l=none∧W'.heap[l]? =some (.loop r))∨(∃pre c,pre<+:xs∧Jx c Hc pre W'∧Hc l=none∧W'.heap[l]? =some (.loop {r with state:= .done,pending:=some c}))):=by
 have hlt1:=(Array.getElem?_eq_some_iff.1 hl).1
 refine(hit l (fun Hc pre W=>J Hc pre W∧Hc l=none∧W.heap[l]? =some (.loop r)) (fun Hc pre W=>∃c,Jx c Hc pre W∧Hc l=none∧W.heap[l]? =some (.loop {r with state:= .done,pending:=some c})) W1 H1 (Ext.refl hw1) ?_ ?_ ?_ ⟨h0,hln,hl⟩).mono ?_
 ·intro Hc s W Hc' W' ⟨hj,hn,hl'⟩ hw ht
  exact⟨hJ _ _ _ _ _ hj hw (ht.mono (by omega)),(ht.same l hlt1).trans hn,(ht.below.block l hlt1).trans hl'⟩
 ·intro Hc s W Hc' W' ⟨c,hj,hn,hl'⟩ hw ht
  exact⟨c,hJx c _ _ _ _ _ hj hw (ht.mono (by omega)),(ht.same l hlt1).trans hn,(ht.below.block l hlt1).trans hl'⟩
 ·rintro Hc pre x W args m hw hle1 ⟨hj,hn,hlW⟩ he hpre
  have hy:=run_yield (P:=P) (args:=args) hlW (by rw[hr1];exact hps _ _ _ he)
  rw[hr1,hr2,hr3,hr4]at hy
  have hltW:=(Array.getElem?_eq_some_iff.1 hlW).1
  refine⟨r.fn,_,assign,body,hy, ?_⟩
  have hany:∀{f:FuncId} {tmps:Array Value} {as1 bd1:Code} {w:World} {R:Ending→World→Prop},RoundIn (FW none) k P l f tmps as1 bd1 w R→RoundIn (FW none) m P l f tmps as1 bd1 w R:=fun h=>⟨h.1,fun c cs _=>h.2 c cs (fun d hd=>by cases hd)⟩
  refine hany (roundIn_of_wpIn (F:=FW none) trivial ?_)
  have ht1:Q6 n0 W Hc W (Hc.put l (.loop r)):=
   ⟨Below.refl _ _,fun b cs t fr e hb=>⟨e,by rw[j5.F3 _ _ (by rintro rfl;rw[hlW]at e;cases e)];exact hb⟩,fun b hb=>j5.F3 _ _ (by omega),hw.put hlW⟩
  have cO6:=j5.L9 hn (.loop r)
  refine wpIn_mono (hassign _ pre x W args ht1.holds ((hle.trans hle1).trans cO6) (hJ _ _ _ _ _ hj hw ht1) (henc _ _ _ _ cO6 he) hpre) ?_
  rintro e a1 W2 hq
  cases e with
  |normal=>
   obtain⟨hw2,hj2⟩:=hq
   have hl2:W2.heap[l]? =some (.loop r):=hw2.at_ _ _ (j5.G7 _ _ _)
   have hlt2:=(Array.getElem?_eq_some_iff.1 hl2).1
   refine⟨_,run_beginRound hl2 hr5, ?_⟩
   have ht2:Q6 n0 W2 (Hc.put l (.loop r)) (W2.putObj l (.loop {r with state:= .busy})) (Hc.put l (.loop {r with state:= .busy})):=
    aA0 hw2 hl2 rfl hn0 (fun k hk=>by rw[j5.F3 _ _ hk,j5.F3 _ _ hk]) (.inr (j5.G7 _ _ _))
   have bU7:=j5.L9 hn (.loop {r with state:= .busy})
   refine wpIn_mono (hbody {r with state:= .busy} _ pre x args a1 _ (World.putObj_heap_same hlt2) ht2.holds ((hle.trans hle1).trans bU7) (henc _ _ _ _ bU7 he) hpre (hJ2 x args a1 _ _ _ _ _ hj2 hw2 ht2)) ?_
   have fin:∀(jump:Option Code) (W3:World),j4 (Hc.put l (.loop {r with state:= .busy})) W3→
    (Instr.endRound l jump).run P W3= .ok (.bool jump.isNone) (W3.putObj l (.loop {r with state:=if jump.isNone then .ready else .done,pending:=jump}))∧
    Q6 n0 W3 (Hc.put l (.loop {r with state:= .busy})) (W3.putObj l (.loop {r with state:=if jump.isNone then .ready else .done,pending:=jump})) Hc∧
    (W3.putObj l (.loop {r with state:=if jump.isNone then .ready else .done,pending:=jump})).heap[l]? =some (.loop {r with state:=if jump.isNone then .ready else .done,pending:=jump}):=fun jump W3 hw3=>by
    have hl3:=hw3.at_ _ _ (j5.G7 _ _ _)
    have he3:=run_endRound (P:=P) jump hl3
    exact⟨he3,aA0 hw3 hl3 rfl hn0 (fun k hk=>(j5.F3 _ _ hk).symm) (.inl hn),World.putObj_heap_same (Array.getElem?_eq_some_iff.1 hl3).1⟩
   rintro e a3 W3 hp
   cases e with
   |normal=>
    obtain⟨hw3,hj3⟩:=hp
    obtain⟨hr,ht3,hl4⟩:=fin none W3 hw3
    have dp7:=(Array.getElem?_eq_some_iff.1 hl4).1
    refine⟨_,_,hr,ht3.holds,by omega,.inl ⟨rfl,hJ _ _ _ _ _ hj3 hw3 ht3,hn, ?_⟩⟩
    rw[hl4]
    obtain⟨_,_,_,_,_,_,_,_⟩:=r
    simp only at hr5 hr6
    subst hr5;subst hr6;rfl
   |ret=>
    obtain⟨hw3,hj3⟩:=hp
    obtain⟨hr,ht3,hl4⟩:=fin (some .ret) W3 hw3
    have dp7:=(Array.getElem?_eq_some_iff.1 hl4).1
    exact⟨_,_,hr,ht3.holds,by omega,.inr ⟨rfl,.ret,hJx _ _ _ _ _ _ hj3 hw3 ht3,hn,hl4⟩⟩
   |exit id=>
    obtain⟨hw3,hj3⟩:=hp
    obtain⟨hr,ht3,hl4⟩:=fin (some (.exit id)) W3 hw3
    have dp7:=(Array.getElem?_eq_some_iff.1 hl4).1
    exact⟨_,_,hr,ht3.holds,by omega,.inr ⟨rfl,.exit id,hJx _ _ _ _ _ _ hj3 hw3 ht3,hn,hl4⟩⟩
   |goto t=>
    obtain⟨hw3,hj3⟩:=hp
    obtain⟨hr,ht3,hl4⟩:=fin (some (.goto t)) W3 hw3
    have dp7:=(Array.getElem?_eq_some_iff.1 hl4).1
    exact⟨_,_,hr,ht3.holds,by omega,.inr ⟨rfl,.goto t,hJx _ _ _ _ _ _ hj3 hw3 ht3,hn,hl4⟩⟩
   |panic ch=>exact hp.elim
   |outgrown=>exact hp.elim
  |exit id=>exact hq.elim
  |goto t=>exact hq.elim
  |ret=>exact hq.elim
  |panic ch=>exact hq.elim
  |outgrown=>exact hq.elim
 ·rintro e W' ⟨hv,Hc,hw,hle1,h⟩
  refine⟨hv,Hc,hw,hle1, ?_⟩
  rcases h with h|⟨pre,hpre,c,h1,h2,h3⟩
  ·exact .inl h
  ·exact .inr ⟨pre,c,hpre,h1,h2,h3⟩
end
end
section
open Go.RowKit
section
variable {P:Program} {α:Type} {g:Operand} {ps:Array Tmp} {assign body:Code} {Q:Exit→Act→World→Prop} {a:Act} {w:World} {H:j5} {k:Nat} {gf:FuncId} {lb:Array Value}
 {enc:j5→α→Array Value→Prop} {xs:List α}
 {J:j5→List α→World→Prop} {Jx:Code→j5→List α→World→Prop} {J2:j5→List α→α→Array Value→Act→World→Prop}
theorem at6 (hg:a.eval g= .func (.func gf) #[] lb) (eg:∀args w,(callFunc gf args).run P w= .ok (.enter gf args) w)
 (hw:j4 H w) (hit:Iter P gf lb enc xs w H) (hps:∀Hc x args,enc Hc x args→args.size=ps.size) (henc:∀A B x args,D8 A B→enc A x args→enc B x args)
 (hJ:Abides w.heap.size J) (hJx:∀c,Abides w.heap.size (Jx c)) (hJ2:∀x args a1,Abides w.heap.size (fun Hc pre W=>J2 Hc pre x args a1 W)) (h0:J H [] w)
 (hassign:∀l Hc pre x W args,w.heap.size≤l→j4 Hc W→D8 H Hc→J Hc pre W→enc Hc x args→pre++[x]<+:xs→
  assign.wpIn (FW (some l)) k P (Exit.then (fun a1 W2=>j4 Hc W2∧J2 Hc pre x args a1 W2) (fun _ _ _=>False)) {tmps:=(ps.zip args).foldl (fun t (p,v)=>t.setIfInBounds p v) a.tmps,defers:=[]} W)
 (hbody:∀l rc Hc pre x args a1 W,w.heap.size≤l→W.heap[l]? =some (.loop rc)→j4 Hc W→D8 H Hc→enc Hc x args→pre++[x]<+:xs→J2 Hc pre x args a1 W→body.wpIn (FW (some l)) k P (co1 J Jx Hc (pre++[x])) a1 W)
 (hdone:∀D Hc W,w.heap.size≤D→j4 Hc W→D8 H Hc→Hc D=some (.deferred (some []))→J Hc xs W→Q .normal {a with defers:={target:= .collected D,args:= #[]}::a.defers} W)
 (hstop:∀D c Hc pre W,w.heap.size≤D→j4 Hc W→D8 H Hc→Hc D=some (.deferred (some []))→pre<+:xs→Jx c Hc pre W→c.wpIn (FW none) k P Q {a with defers:={target:= .collected D,args:= #[]}::a.defers} W):
 (Code.rangeFunc g ps assign body).wpIn (FW none) k P Q a w:=by
 refine wpIn_rangeFunc ?_
 intro fn _
 obtain⟨r,hr⟩:∃r:Loop,r={state:= .ready,pending:=none,fn,tmps:=a.tmps,params:=ps,assign,body,defers:=w.heap.size}:=⟨_,rfl⟩
 obtain⟨W1,hW1⟩:∃W1,(w.alloc (.deferred (some []))).alloc (.loop r)=W1:=⟨_,rfl⟩
 have hL1:W1.heap[w.heap.size+1]? =some (.loop r):=by
  rw[←hW1];have:=World.alloc_heap_new (w.alloc (.deferred (some []))) (.loop r);rwa [World.size_alloc]at this
 have hK1:W1.heap[w.heap.size]? =some (.deferred (some [])):=by
  rw[←hW1];exact(Below.heap_alloc _ _ _ (by simp)).trans (World.alloc_heap_new w _)
 have hb1:Below w.heap.size w W1:=by rw[←hW1];exact((Below.refl _ w).alloc (fh0 _) _).alloc (by simp) _
 have hnD:H w.heap.size=none:=hw.D6 (fh0 _)
 have hle1:=j5.L9 hnD (.deferred (some []))
 have ht:Q6 w.heap.size w H W1 (H.put w.heap.size (.deferred (some []))):=by
  refine⟨hb1,fun b cs t fr e hb=> ?_,fun b hb=>j5.F3 _ _ (by omega),⟨fun b o e=> ?_⟩⟩
  ·have hlt:=(Array.getElem?_eq_some_iff.1 e).1
   exact⟨(hb1.block b hlt).trans e,by rw[j5.F3 _ _ (by omega)];exact hb⟩
  ·by_cases hb:b=w.heap.size
   ·subst hb;rw[j5.G7]at e;cases e;exact hK1
   ·rw[j5.F3 _ _ hb]at e;exact(hb1.block b (hw.lt e)).trans (hw.at_ _ _ e)
 have hx1:Ext w H W1 (H.put w.heap.size (.deferred (some []))):=⟨hb1,ht.holds,fun b hb=>j5.F3 _ _ (by omega)⟩
 have dp8:Iter P gf lb enc xs W1 (H.put w.heap.size (.deferred (some []))):=fun l J Jx W HW hx=>hit l J Jx W HW (hx1.trans hx)
 refine⟨w.heap.size+1,[{target:= .collected w.heap.size,args:= #[]}],W1,{target:= .fn (.func gf) lb,args:= #[.func (.yield (w.heap.size+1)) #[] #[]]},W1,gf,
  #[.func (.yield (w.heap.size+1)) #[] #[]]++lb,W1, ?_, ?_,fun _ _=>trivial, ?_,aV9, ?_⟩
 ·rw[←hW1,hr];exact run_enterLoop_outer _ _ _ _ _
 ·simp only[resolve,hg];simp[go_sem]
 ·simp[invoke,go_sem,eg]
 ·refine(Calls.wide (cb3 (n0:=w.heap.size) (r:=r) (a:=a) (ps:=ps) (assign:=assign) (body:=body) (k:=k) (by rw[hr]) (by rw[hr]) (by rw[hr]) (by rw[hr]) (by rw[hr]) (by rw[hr]) dp8 ht.holds (by rw[←hW1];simp) hL1
   (by rw[j5.F3 _ _ (by omega)];exact hw.D6 (by omega)) (by omega) hps henc hle1 hJ hJx hJ2 (hJ _ _ _ _ _ h0 hw ht) (fun Hc pre x W args=>hassign _ Hc pre x W args (by omega)) (fun rc Hc pre x args a1 W=>hbody _ rc Hc pre x args a1 W (by omega)))).mono ?_
  rintro e W2 ⟨⟨v,rfl⟩,Hc,hwc,K5,h⟩
  have hD:Hc w.heap.size=some (.deferred (some [])):=K5 _ _ (j5.G7 _ _ _)
  rcases h with⟨hj,hn,hl⟩|⟨pre,c,hpre,hj,hn,hl⟩
  ·refine⟨none,_,by have:=run_endLoop (P:=P) hl (by rw[hr];simp);rw[hr]at this;exact this, ?_⟩
   have ht2:=aA0 (n0:=w.heap.size) (Hc':=Hc) (o':= .loop {r with state:= .exhausted}) hwc hl rfl (by omega) (fun _ _=>rfl) (.inl hn)
   rw[hr]at ht2
   exact hdone _ Hc _ (fh0 _) ht2.holds (hle1.trans K5) hD (hJ _ _ _ _ _ hj hwc ht2)
  ·refine⟨some c,_,by have:=run_endLoop (P:=P) hl (by simp);rw[hr]at this;exact this, ?_⟩
   have ht2:=aA0 (n0:=w.heap.size) (Hc':=Hc) (o':= .loop {{r with state:= .done,pending:=some c}with state:= .exhausted}) hwc hl rfl (by omega) (fun _ _=>rfl) (.inl hn)
   rw[hr]at ht2
   exact hstop _ c Hc pre _ (fh0 _) ht2.holds (hle1.trans K5) hD hpre (hJx _ _ _ _ _ _ hj hwc ht2)
theorem bu3 {l0:Nat} {r0:Loop} (hl0:w.heap[l0]? =some (.loop r0)) (hg:a.eval g= .func (.func gf) #[] lb) (eg:∀args w,(callFunc gf args).run P w= .ok (.enter gf args) w)
 (hw:j4 H w) (hit:Iter P gf lb enc xs w H) (hps:∀Hc x args,enc Hc x args→args.size=ps.size) (henc:∀A B x args,D8 A B→enc A x args→enc B x args)
 (hJ:Abides w.heap.size J) (hJx:∀c,Abides w.heap.size (Jx c)) (hJ2:∀x args a1,Abides w.heap.size (fun Hc pre W=>J2 Hc pre x args a1 W)) (h0:J H [] w)
 (hassign:∀l Hc pre x W args,w.heap.size≤l→j4 Hc W→D8 H Hc→J Hc pre W→enc Hc x args→pre++[x]<+:xs→
  assign.wpIn (FW (some l)) k P (Exit.then (fun a1 W2=>j4 Hc W2∧J2 Hc pre x args a1 W2) (fun _ _ _=>False)) {tmps:=(ps.zip args).foldl (fun t (p,v)=>t.setIfInBounds p v) a.tmps,defers:=[]} W)
 (hbody:∀l rc Hc pre x args a1 W,w.heap.size≤l→W.heap[l]? =some (.loop rc)→j4 Hc W→D8 H Hc→enc Hc x args→pre++[x]<+:xs→J2 Hc pre x args a1 W→body.wpIn (FW (some l)) k P (co1 J Jx Hc (pre++[x])) a1 W)
 (hdone:∀Hc W,j4 Hc W→D8 H Hc→J Hc xs W→Q .normal a W)
 (hstop:∀c Hc pre W,j4 Hc W→D8 H Hc→pre<+:xs→Jx c Hc pre W→c.wpIn (FW (some l0)) k P Q a W):
 (Code.rangeFunc g ps assign body).wpIn (FW (some l0)) k P Q a w:=by
 refine wpIn_rangeFunc ?_
 intro fn _
 obtain⟨r,hr⟩:∃r:Loop,r={state:= .ready,pending:=none,fn,tmps:=a.tmps,params:=ps,assign,body,defers:=r0.defers}:=⟨_,rfl⟩
 obtain⟨W1,hW1⟩:∃W1,w.alloc (.loop r)=W1:=⟨_,rfl⟩
 have hL1:W1.heap[w.heap.size]? =some (.loop r):=by rw[←hW1];exact World.alloc_heap_new w _
 have hb1:Below w.heap.size w W1:=by rw[←hW1];exact(Below.refl _ w).alloc (fh0 _) _
 have ht:Q6 w.heap.size w H W1 H:=Q6.ext hw hb1 (fh0 _)
 have hx1:Ext w H W1 H:=⟨hb1,ht.holds,fun b hb=>rfl⟩
 have dp8:Iter P gf lb enc xs W1 H:=fun l J Jx W HW hx=>hit l J Jx W HW (hx1.trans hx)
 refine⟨w.heap.size,[],W1,{target:= .fn (.func gf) lb,args:= #[.func (.yield w.heap.size) #[] #[]]},W1,gf,
  #[.func (.yield w.heap.size) #[] #[]]++lb,W1, ?_, ?_,fun _ _=>trivial, ?_,aV9, ?_⟩
 ·rw[←hW1,hr];exact run_enterLoop_inner hl0 _ _ _ _ _
 ·simp only[resolve,hg];simp[go_sem]
 ·simp[invoke,go_sem,eg]
 ·refine(Calls.wide (cb3 (n0:=w.heap.size) (r:=r) (a:=a) (ps:=ps) (assign:=assign) (body:=body) (k:=k) (by rw[hr]) (by rw[hr]) (by rw[hr]) (by rw[hr]) (by rw[hr]) (by rw[hr]) dp8 ht.holds (by rw[←hW1];simp) hL1
   (hw.D6 (by omega)) (by omega) hps henc (D8.refl _) hJ hJx hJ2 (hJ _ _ _ _ _ h0 hw ht) (fun Hc pre x W args=>hassign _ Hc pre x W args (by omega)) (fun rc Hc pre x args a1 W=>hbody _ rc Hc pre x args a1 W (by omega)))).mono ?_
  rintro e W2 ⟨⟨v,rfl⟩,Hc,hwc,K5,h⟩
  rcases h with⟨hj,hn,hl⟩|⟨pre,c,hpre,hj,hn,hl⟩
  ·refine⟨none,_,by have:=run_endLoop (P:=P) hl (by rw[hr];simp);rw[hr]at this;exact this, ?_⟩
   have ht2:=aA0 (n0:=w.heap.size) (Hc':=Hc) (o':= .loop {r with state:= .exhausted}) hwc hl rfl (by omega) (fun _ _=>rfl) (.inl hn)
   rw[hr]at ht2
   exact hdone Hc _ ht2.holds K5 (hJ _ _ _ _ _ hj hwc ht2)
  ·refine⟨some c,_,by have:=run_endLoop (P:=P) hl (by simp);rw[hr]at this;exact this, ?_⟩
   have ht2:=aA0 (n0:=w.heap.size) (Hc':=Hc) (o':= .loop {{r with state:= .done,pending:=some c}with state:= .exhausted}) hwc hl rfl (by omega) (fun _ _=>rfl) (.inl hn)
   rw[hr]at ht2
   exact hstop c Hc pre _ ht2.holds K5 hpre (hJx _ _ _ _ _ _ hj hwc ht2)
end
end
section
open Go.RowKit
section
variable {P:Program} {md:Region.Mode} {ops:Array Oper} {Q:Exit→Act→World→Prop} {S:World→Prop} {n g k:Nat} {tl:List Oper} {r:Option Nat}
theorem cA3 {o:Oper} {a:Act} {w:World} {K K':Act→World→Prop} (hnd:∀c,o.op≠ .defer c) (hK:∀a w,K a w→K' a w) (h:o.wp P a w K Q):o.wpIn (FW r) k P a w K' Q:=by
 unfold Oper.wp at h
 unfold Oper.wpIn
 refine⟨fun _ _=>trivial, ?_⟩
 rw[Oper.semAt_eq _ _ _ hnd]
 generalize(execOp a.eval o).run P w=res at*
 cases res with
 |ok x w'=>
  cases x<;>simp only[Oper.upon]at h<;>simp only[Oper.uponIn]
  case value u=>exact hK _ _ h
  case skip=>exact hK _ _ h
  case defer d=>exact hK _ _ h
  case enter f args=>
   refine⟨aV9,(Calls.wide h).mono fun e w'' he=> ?_⟩
   cases e with
   |returned v=>exact hK _ _ he
   |panicked c=>exact he
   |outgrown=>exact he
  case row row args=>
   refine⟨aV9,fun c cs _=> ?_⟩
   obtain⟨v,w'',h1,h2⟩:=h c cs
   exact⟨v,w'',hK _ _ h1,stepsIn_wide.2 h2⟩
 |halt x w'=>
  cases x<;>simp only[Oper.upon]at h<;>simp only[Oper.uponIn]
  case panic v=>exact h
theorem bU8 {i:Nat} {a:Act} {w:World} {K K':Act→World→Prop} (hnd:aD7 ops=true) (hq:¬LetsOut Q) (hK:∀a w,K a w→K' a w) (h:wpOp P ops Q i K a w):wpOpIn (FW r) k P ops Q i K' a w:=by
 unfold wpOp at h
 unfold wpOpIn
 split
 ·rename_i ho;simp only[ho]at h;exact hK _ _ h
 ·rename_i o ho
  simp only[ho]at h
  split
  ·rename_i hw
   simp only[hw,if_true]at h
   rcases h with h|h
   ·exact cA3 (bu2 hnd ho) hK h
   ·exact absurd h.2 hq
  ·rename_i hw;simp only[hw]at h;exact⟨fun _ _=>trivial,hK _ _ h⟩
theorem aW0 (hnd:aD7 ops=true) (hq:¬LetsOut Q):∀(f:Nat) (listed:Array Bool) (a:Act) (w:World),wpAny P md ops Q f listed a w→wpAnyIn (FW r) k P md ops Q f listed a w
 |0,_,_,_,h=>h
 |f+1,_,_,_,h=>⟨h.1,fun i hi=>bU8 hnd hq (fun a' w'=>aW0 hnd hq f _ a' w') (h.2 i hi)⟩
theorem ba2 {id:Nat} {a:Act} {w:World} {l:List Oper} (n:Nat) (hm:P.follows .mixedOrders=true) (hB:(decide (n<l.length)&&Region.sinkB .any l.toArray n&&Region.chainB .any l.toArray n&&aD7 l.toArray)=true) (hq:¬LetsOut Q) (hS:S w.drew)
 (h:S w.drew→hdI P .any l.toArray Q S n (l.length-n) (l.drop n) n (Array.replicate l.length false) a w.drew):(Code.region id l.toArray true).wpIn (FW r) k P Q a w:=by
 simp only[fh9,decide_eq_true_eq]at hB
 obtain⟨⟨⟨hn,hs⟩,hc⟩,hnd⟩:=hB
 have inv0:HeadInv .any l.toArray n (Array.replicate l.length false):=
  ⟨by simp,fun j oj _ hl=>(by rw[getD_replicate_false]at hl;cases hl),fun t _ ht=>getD_in (by simpa using ht) (getD_replicate_false _ _)⟩
 refine wpIn_region_any hm (aW0 hnd hq _ _ _ _ ?_)
 have:=aV4 (S:=S) (md:= .any) (ops:=l.toArray) (Q:=Q) (P:=P) (n:=n) (g:=l.length-n) (tl:=l.drop n) (fun listed a' w' hq hw=>by
  have h2:=wpAny_of_seq (md:= .any) (Q':=Q) (l.drop n) n listed a' w' (fun j=>by simp[List.getElem?_drop]) (by rw[List.length_drop];exact hq) hw
  rwa [List.length_drop]at h2) n _ a w.drew (h hS ⟨inv0,hs,hc,by simpa using hn⟩)
 rw[show n+(l.length-n)=l.toArray.size by simp;omega]at this
 simpa using this
end
end
section
open Go.RowKit
attribute [local go_sem] j4.drew j4.alloc j4.drewN WB.holds Oper.semAt_some
theorem Q9 (r:Option Nat) (f:FuncId):(FW r).fn f=True:=rfl
theorem O1 (r:Option Nat):(FW r).depth=none:=rfl
theorem J7 (r:Option Nat):(FW r).round=r:=rfl
theorem Calls.aw5 {r:Option Nat} {n:Nat} {P:Program} {f:FuncId} {args:Array Value} {w:World} {R:Ending→World→Prop} (h:CallsIn (FW r) n P f args w R):Calls P f args w R:=(callsIn_wide (n:=n)).1 h
attribute [local go_sem] Q9 O1 J7
theorem aD8 (h:A9) {j n:Nat} (hj:j≤n):az6 h j<+:az6 h n:=by
 induction n with
 |zero=>rw[show j=0 by omega];exact List.prefix_refl _
 |succ n ih=>
  by_cases e:j=n+1
  ·rw[e];exact List.prefix_refl _
  ·refine(ih (by omega)).trans ?_
   rw[br8]
   split
   ·exact List.prefix_append _ _
   ·exact List.prefix_refl _
def dO7 (_:j5) (c:Int) (args:Array Value):Prop:=args= #[.int .i64 c]
def bA4 {α:Type} (HW:j5) (xs:List α) (J Jx:j5→List α→World→Prop) (e:Ending) (W':World):Prop:=
 (∃v,e= .returned v)∧∃Hc,j4 Hc W'∧D8 HW Hc∧(J Hc xs W'∨∃pre,pre<+:xs∧Jx Hc pre W')
theorem cO7 (vm vb vt:Value) (h:A9) (B:Nat) (H:j5) (w:World) (hw:j4 H w) (hh:Hou H vm vb vt h) (hB:H B=some (.cells (U2 vm vb vt h).cells 26 (0,0))) (eS7:h.ms.length≤3):
 Iter Tryz.prog 98 #[.pointer (some ⟨B,0,none⟩)] dO7 (ag6 h) w H:=by
 obtain⟨am,cm,rfl,hm1,hm2⟩:=hh.m.form
 intro l J Jx W HW hx hJ hJx hY h0
 have ac2:=hx.le hw
 have hW:=hx.holds
 obtain⟨hc0,hc1,hc2,hc3⟩:=R6 hB
 refine Calls.mono (R:=bA4 HW (ag6 h) J Jx) (Calls.aw5 (r:=none) (n:=3) ?_) (fun _ _ h=>h)
 obtain⟨fn,tmps,assign,body,hy,hR⟩:=hY HW [] (-1) W #[.int .i64 (-1)] 2 hW (D8.refl _) h0 rfl (aD8 h (fh3 _))
 refine callsIn_of_wp Tryz.func98 rfl trivial ?_ rfl
 simp only[Tryz.ntmps98,List.size_toArray,ff8,fg1,fh6,fh7,fg9,fg8,fg3,List.append_toArray,ff9,fg2]
 gi_wp2
 refine hR.mono ?_
 clear hR hy
 rintro e W1 ⟨hW1,hz1,(⟨rfl,hJ1⟩|⟨rfl,es6⟩)⟩
 ·have dp9:=lift ac2 hc0
  gi_wp2
  gi_loopw [3,4,11] (fun _ _ i wr=>∃(k:Nat) (Hc:j5),k≤h.ms.length∧i= .int .i64 k∧j4 Hc wr∧D8 HW Hc∧W.heap.size≤wr.heap.size∧J Hc (az6 h k) wr) (fun _ _ i _=>h.ms.length-(intOf i).toNat)
  case atStart=>exact⟨0,HW,fh3 _,rfl,hW1,D8.refl _,hz1,hJ1⟩
  case round=>
   clear hJ1 hW1 dp9
   obtain⟨k,Hc,hk,rfl,hwc,K5,hsz,hJk⟩:=hrel
   by_cases hlk:k<h.ms.length
   ·obtain⟨mc,hmc⟩:=At.mk hlk
    obtain⟨bm,om,cm',he,⟨hmr,hmp,hms⟩,hcr,hcp,hcs⟩:=hh.m.aw2 hmc
    cases he
    replace hcr:=lift (ac2.trans K5) hcr
    replace hcp:=lift (ac2.trans K5) hcp
    replace hcs:=lift (ac2.trans K5) hcs
    have hsucc:=br8 h k
    rw[hmc.aw2]at hsucc
    have hbA:=(Below.refl wr.heap.size wr).alloc (fh0 _) (.cells #[.int .i64 mc.r,.int .i64 mc.p,.int .i64 mc.s] 94)
    have hJA:=hJ _ _ _ _ _ hJk hwc (Q6.ext hwc hbA hsz)
    cases g:(mc.s==1)
    ·have g1:¬mc.s=1:=by simpa using g
     rw[if_neg g1]at hsucc
     replace hsucc:=fe6 hsucc
     replace g1:=fe6 g1
     gi_wp2
     go_roundw
     case rel=>exact⟨k+1,Hc,by omega,by go_num,hwc.alloc _,K5,by simp;omega,by rw[hsucc.out];exact hJA⟩
     case measure=>simp[intOf];omega
    ·have g1:mc.s=1:=by simpa using g
     rw[if_pos g1]at hsucc
     obtain⟨fn,tmps,assign,body,hy,hR⟩:=hY Hc (az6 h k) (k:Int) _ #[.int .i64 k] 2 (hwc.alloc _) K5 hJA rfl (by rw[←hsucc];exact aD8 h (by omega))
     rw[←hsucc]at hR
     replace hsucc:=fe6 hsucc
     replace g1:=fe6 g1
     gi_wp2
     refine hR.mono ?_
     clear hR hy
     rintro e W3 ⟨hW3,hz3,(⟨rfl,hJ3⟩|⟨rfl,hJx3⟩)⟩
     ·gi_wp2
      go_roundw
      case rel=>exact⟨k+1,Hc,by omega,by go_num,hW3,K5,hz3,hJ3⟩
      case measure=>simp[intOf];omega
     ·gi_wp2
      refine bodyPost_ret (results_none rfl _ _ _) rfl ?_
      exact⟨⟨_,rfl⟩,Hc,hW3,K5,.inr ⟨_,aD8 h (by omega),hJx3⟩⟩
   ·gi_wp2
    go_end0
    have hk':k=h.ms.length:=by omega
    subst hk'
    exact⟨⟨_,rfl⟩,Hc,hwc,K5,.inl hJk⟩
 ·gi_wp2
  refine bodyPost_ret (results_none rfl _ _ _) rfl ?_
  exact⟨⟨_,rfl⟩,HW,hW1,D8.refl _,.inr ⟨_,aD8 h (fh3 _),es6⟩⟩
end
section
open Go.RowKit
def ownB (UB R:Nat) (vs:List Value) (k:Nat):Bool:=(k==UB) || ((k==R) || vs.any fun v=>v.ownBlock==some k)
theorem Q7 {UB R:Nat} {vs:List Value} {k:Nat}:ownB UB R vs k=true↔k=UB∨k=R∨∃v∈vs,v.ownBlock=some k:=by
 simp[ownB,List.any_eq_true]
def Y8 (HF:j5) (UB R:Nat) (vs:List Value) (W:World):j5:=fun k=>match HF k with
 |some o=>some o
 |none=>if ownB UB R vs k then W.heap[k]? else none
section
variable {HF:j5} {n0 UB R:Nat} {tI tL:TypeId} {W W':World} {vs vs':List Value} {u u':Nat} {plan dy7:List (List Int)}
theorem aB7 (W:World) {k:Nat} {o:Obj} (h:HF k=some o):Y8 HF UB R vs W k=some o:=by simp[Y8,h]
theorem aB8 (W:World) {k:Nat} (h:HF k=none) (ho:ownB UB R vs k=true):Y8 HF UB R vs W k=W.heap[k]? :=by simp[Y8,h,ho]
theorem ay3 (W:World) {k:Nat} (h:HF k=none) (ho:ownB UB R vs k=false):Y8 HF UB R vs W k=none:=by simp[Y8,h,ho]
theorem aW2 (W:World):D8 HF (Y8 HF UB R vs W):=fun _ _ h=>aB7 W h
structure St (HF:j5) (n0 UB R:Nat) (tI tL:TypeId) (W:World) (vs:List Value) (u:Nat) (plan:List (List Int)):Prop where
 hf:j4 HF W
 ub:W.heap[UB]? =some (.cells #[.int .i64 (u:Int)] tI (0,0))
 rr:W.heap[R]? =some (.cells vs.toArray tL (0,0))
 len:vs.length=plan.length
 rows:∀m l v,At plan m l→At vs m v→W.ownsRow n0 tI 1 v l.length (l.map (Value.int .i64))
 new:∀k,ownB UB R vs k=true→HF k=none∧n0≤k
 ne:UB≠R
 rne:∀v∈vs,v.ownBlock≠some UB∧v.ownBlock≠some R
 apart:∀m m' v v',m≠m'→At vs m v→At vs m' v'→v.ownBlock=none∨v.ownBlock≠v'.ownBlock
 i64:∀x∈plan.flatten,K8 x
theorem St.row (s:St HF n0 UB R tI tL W vs u plan) {v:Value} (hv:v∈vs):∃m l,At plan m l∧At vs m v:=by
 obtain⟨m,hm,rfl⟩:=List.getElem_of_mem hv
 exact⟨m,plan[m]'(by rw[←s.len];exact hm),fg0 (by rw[←s.len];exact hm),fg0 hm⟩
theorem St.bA5 (s:St HF n0 UB R tI tL W vs u plan) {k:Nat} (hk:ownB UB R vs k=true):k<W.heap.size:=by
 rcases Q7.1 hk with rfl|rfl|⟨v,hv,e⟩
 ·exact(Array.getElem?_eq_some_iff.1 s.ub).1
 ·exact(Array.getElem?_eq_some_iff.1 s.rr).1
 ·obtain⟨m,l,hl,hv'⟩:=s.row hv
  exact((s.rows m l v hl hv').lt k e).2
theorem St.holds (s:St HF n0 UB R tI tL W vs u plan):j4 (Y8 HF UB R vs W) W:=⟨fun k o e=>by
 cases hk:HF k with
 |some o'=>rw[aB7 W hk]at e;cases e;exact s.hf.at_ _ _ hk
 |none=>
  cases ho:ownB UB R vs k with
  |true=>rw[aB8 W hk ho]at e;exact e
  |false=>rw[ay3 W hk ho]at e;cases e⟩
theorem St.turn (s:St HF n0 UB R tI tL W vs u plan) (s':St HF n0 UB R tI tL W' vs' u' dy7) (hB:Below n0 W W') (hoth:∀k,k<W.heap.size→ownB UB R vs k=false→W'.heap[k]? =W.heap[k]?)
 (hsub:∀k,ownB UB R vs' k=true→ownB UB R vs k=true∨W.heap.size≤k):Q6 n0 W (Y8 HF UB R vs W) W' (Y8 HF UB R vs' W'):=by
 refine⟨hB,fun b cs t fr e hb=> ?_,fun b hb=> ?_,s'.holds⟩
 ·have hlt:=(Array.getElem?_eq_some_iff.1 e).1
  have hF:HF b=none:=by
   cases hk:HF b with
   |some o=>rw[aB7 W hk]at hb;cases hb
   |none=>rfl
  have ho:ownB UB R vs b=false:=by
   cases ho:ownB UB R vs b with
   |false=>rfl
   |true=>rw[aB8 W hF ho,e]at hb;cases hb
  refine⟨(hoth b hlt ho).trans e,ay3 W' hF ?_⟩
  cases ho':ownB UB R vs' b with
  |false=>rfl
  |true=>
   rcases hsub b ho' with h|h
   ·rw[ho]at h;cases h
   ·omega
 ·cases hk:HF b with
  |some o=>rw[aB7 W hk,aB7 W' hk]
  |none=>
   have h1:ownB UB R vs b=false:=by
    cases ho:ownB UB R vs b with
    |false=>rfl
    |true=>have:=(s.new b ho).2;omega
   have h2:ownB UB R vs' b=false:=by
    cases ho:ownB UB R vs' b with
    |false=>rfl
    |true=>have:=(s'.new b ho).2;omega
   rw[ay3 W hk h1,ay3 W' hk h2]
theorem St.kept (s:St HF n0 UB R tI tL W vs u plan) (h:j4 (Y8 HF UB R vs W) W'):St HF n0 UB R tI tL W' vs u plan∧Y8 HF UB R vs W'=Y8 HF UB R vs W:=by
 have same:∀k,ownB UB R vs k=true→W'.heap[k]? =W.heap[k]? :=fun k ho=>by
  obtain⟨o,ho'⟩:∃o,W.heap[k]? =some o:=⟨_,Array.getElem?_eq_getElem (s.bA5 ho)⟩
  have:=h.at_ k o (by rw[aB8 W (s.new k ho).1 ho];exact ho')
  rw[this,ho']
 refine⟨⟨h.mono (aW2 W),(same UB (Q7.2 (.inl rfl))).trans s.ub,(same R (Q7.2 (.inr (.inl rfl)))).trans s.rr,s.len,fun m l v hl hv=> ?_,s.new,s.ne,s.rne,s.apart,s.i64⟩, ?_⟩
 ·have h1:=s.rows m l v hl hv
  refine⟨h1.1, ?_⟩
  rcases h1.2 with h2|⟨g,cap,cur,hv',hb,hg,rest⟩
  ·exact .inl h2
  ·exact .inr ⟨g,cap,cur,hv',hb,(same g (Q7.2 (.inr (.inr ⟨v,hv.mem,by rw[hv'];rfl⟩)))).trans hg,rest⟩
 ·funext k
  cases hk:HF k with
  |some o=>rw[aB7 W hk,aB7 W' hk]
  |none=>
   cases ho:ownB UB R vs k with
   |true=>rw[aB8 W hk ho,aB8 W' hk ho,same k ho]
   |false=>rw[ay3 W hk ho,ay3 W' hk ho]
theorem St.ext (s:St HF n0 UB R tI tL W vs u plan) (h:Below W.heap.size W W'):St HF n0 UB R tI tL W' vs u plan∧Y8 HF UB R vs W'=Y8 HF UB R vs W:=s.kept (s.holds.below h)
theorem St.drew (s:St HF n0 UB R tI tL W vs u plan):St HF n0 UB R tI tL W.drew vs u plan:=(s.ext (Below.refl _ _).drew).1
theorem bj8 (W:World):Y8 HF UB R vs W.drew=Y8 HF UB R vs W:=rfl
theorem St.bU9 (s:St HF n0 UB R tI tL W vs u plan) (u':Nat):St HF n0 UB R tI tL (W.setCell ⟨UB,0,none⟩ (.int .i64 (u':Int))) vs u' plan∧
 Q6 n0 W (Y8 HF UB R vs W) (W.setCell ⟨UB,0,none⟩ (.int .i64 (u':Int))) (Y8 HF UB R vs (W.setCell ⟨UB,0,none⟩ (.int .i64 (u':Int)))):=by
 have hU:=s.new UB (Q7.2 (.inl rfl))
 have s':St HF n0 UB R tI tL (W.setCell ⟨UB,0,none⟩ (.int .i64 (u':Int))) vs u' plan:=by
  refine⟨s.hf.setCell hU.1 _,by have:=Q4 (i:=0) s.ub (.int .i64 (u':Int));simpa using this,(Below.heap_setCell _ _ _ _ (Ne.symm s.ne)).trans s.rr,s.len,fun m l v hl hv=> ?_,s.new,s.ne,s.rne,s.apart,s.i64⟩
  exact ownsRow_setCell_other (s.rows m l v hl hv) (s.rne v hv.mem).1 _
 refine⟨s',s.turn s' ((Below.refl _ _).setCell hU.2 _) (fun k _ ho=>Below.heap_setCell _ _ _ _ ?_) (fun k hk=> .inl hk)⟩
 rintro rfl
 rw[Q7.2 (.inl rfl)]at ho;cases ho
theorem St.bA6 (s:St HF n0 UB R tI tL W vs u plan):W.cell? ⟨UB,0,none⟩=some (.int .i64 (u:Int))∧W.frozen? ⟨UB,0,none⟩=false:=by
 constructor<;>simp[World.cell?,World.frozen?,s.ub]
theorem St.bA7 (s:St HF n0 UB R tI tL W vs u plan) {m:Nat} {v:Value} (hv:At vs m v):W.cell? ⟨R,m,none⟩=some v∧W.frozen? ⟨R,m,none⟩=false:=by
 constructor
 ·rw[cell_of_row W R m _ _ _ s.rr];simpa using(show vs[m]? =some v from hv)
 ·simp[World.frozen?,s.rr]
theorem At.co4 {α:Type} {xs:List α} {m:Nat} {x:α} (h:At xs m x) (y:α):At (xs.set m y) m y:=by
 show _=_;rw[List.getElem?_set_self h.lt]
theorem At.bf6 {α:Type} {xs:List α} {m k:Nat} {y z:α} (h:At (xs.set m y) k z):(k=m∧z=y)∨(k≠m∧At xs k z):=by
 have h':(xs.set m y)[k]? =some z:=h
 by_cases e:k=m
 ·subst e
  have hl:=(List.getElem?_eq_some_iff.1 h').1
  rw[List.length_set]at hl
  rw[List.getElem?_set_self hl]at h'
  cases h'
  exact .inl ⟨rfl,rfl⟩
 ·rw[List.getElem?_set_ne (Ne.symm e)]at h'
  exact .inr ⟨e,h'⟩
theorem St.setRow (s:St HF n0 UB R tI tL W vs u plan) {m:Nat} {l l':List Int} {v v':Value} (hl:At plan m l) (hv:At vs m v)
 (hB:Below n0 W W') (hoth:∀k,k<W.heap.size→some k≠v.ownBlock→W'.heap[k]? =W.heap[k]?)
 (hrow:W'.ownsRow n0 tI 1 v' l'.length (l'.map (Value.int .i64))) (hat:v'.ownBlock=v.ownBlock∨∃g,v'.ownBlock=some g∧W.heap.size≤g) (hi:∀x∈l',K8 x) (hpl:∀x∈(plan.set m l').flatten,K8 x):
 St HF n0 UB R tI tL (W'.setCell ⟨R,m,none⟩ v') (vs.set m v') u (plan.set m l')∧
 Q6 n0 W (Y8 HF UB R vs W) (W'.setCell ⟨R,m,none⟩ v') (Y8 HF UB R (vs.set m v') (W'.setCell ⟨R,m,none⟩ v')):=by
 have hR:=s.new R (Q7.2 (.inr (.inl rfl)))
 have hU:=s.new UB (Q7.2 (.inl rfl))
 have dq0:=(Array.getElem?_eq_some_iff.1 s.rr).1
 have es7:=(Array.getElem?_eq_some_iff.1 s.ub).1
 have hvb:=s.rne v hv.mem
 have hWR:W'.heap[R]? =some (.cells vs.toArray tL (0,0)):=(hoth R dq0 (Ne.symm hvb.2)).trans s.rr
 have hsz:=hB.size
 have dy8:v'.ownBlock≠some UB∧v'.ownBlock≠some R:=by
  rcases hat with h|⟨g,h,hg⟩
  ·rw[h];exact hvb
  ·rw[h];exact⟨fun e=>by cases e;omega,fun e=>by cases e;omega⟩
 have hsub:∀k,ownB UB R (vs.set m v') k=true→ownB UB R vs k=true∨W.heap.size≤k:=by
  intro k hk
  rcases Q7.1 hk with e|e|⟨x,hx,e⟩
  ·exact .inl (Q7.2 (.inl e))
  ·exact .inl (Q7.2 (.inr (.inl e)))
  ·rcases List.mem_or_eq_of_mem_set hx with hx|rfl
   ·exact .inl (Q7.2 (.inr (.inr ⟨x,hx,e⟩)))
   ·rcases hat with h|⟨g,h,hg⟩
    ·exact .inl (Q7.2 (.inr (.inr ⟨v,hv.mem,by rw[←h];exact e⟩)))
    ·rw[h]at e;cases e;exact .inr hg
 have hHF:j4 HF W':=⟨fun k o e=>by
  refine(hoth k (s.hf.lt e) ?_).trans (s.hf.at_ _ _ e)
  intro ek
  have:=(s.new k (Q7.2 (.inr (.inr ⟨v,hv.mem,ek.symm⟩)))).1
  rw[this]at e;cases e⟩
 have s':St HF n0 UB R tI tL (W'.setCell ⟨R,m,none⟩ v') (vs.set m v') u (plan.set m l'):=by
  refine⟨hHF.setCell hR.1 _,(Below.heap_setCell _ _ _ _ s.ne).trans ((hoth UB es7 (Ne.symm hvb.1)).trans s.ub), ?_,by simp[s.len], ?_, ?_,s.ne, ?_, ?_,hpl⟩
  ·have:=Q4 (i:=m) hWR v'
   rw[this]
   simp
  ·intro k lk x hlk hx
   rcases hx.bf6 with⟨rfl,rfl⟩|⟨hkm,hx⟩
   ·have:lk=l':=hlk.uniq (hl.co4 l')
    subst this
    exact ownsRow_setCell_other hrow dy8.2 _
   ·have es8:At plan k lk:=by
     rcases hlk.bf6 with⟨e,_⟩|⟨_,h⟩
     ·exact absurd e hkm
     ·exact h
    refine ownsRow_setCell_other ?_ (s.rne x hx.mem).2 _
    have h1:=s.rows k lk x es8 hx
    refine⟨h1.1, ?_⟩
    rcases h1.2 with h2|⟨g,cap,cur,hxv,hb,hg,rest⟩
    ·exact .inl h2
    ·refine .inr ⟨g,cap,cur,hxv,hb,(hoth g (Array.getElem?_eq_some_iff.1 hg).1 ?_).trans hg,rest⟩
     have:=s.apart k m x v hkm hx hv
     rw[hxv]at this
     rcases this with h|h
     ·cases h
     ·exact h
  ·intro k hk
   rcases hsub k hk with h|h
   ·exact s.new k h
   ·refine⟨s.hf.D6 h, ?_⟩
    omega
  ·intro x hx
   rcases List.mem_or_eq_of_mem_set hx with hx|rfl
   ·exact s.rne x hx
   ·exact dy8
  ·intro j k x y hjk hx hy
   rcases hx.bf6 with⟨hjm,hxv⟩|⟨hjm,hx2⟩
   ·rcases hy.bf6 with⟨e,_⟩|⟨hkm,hy2⟩
    ·exact absurd (hjm.trans e.symm) hjk
    ·rw[hxv]
     rcases hat with h|⟨g,h,hg⟩
     ·rw[h];exact s.apart m k v y (Ne.symm hkm) hv hy2
     ·rw[h]
      refine .inr fun e=> ?_
      have:=s.bA5 (Q7.2 (.inr (.inr ⟨y,hy2.mem,e.symm⟩)))
      omega
   ·rcases hy.bf6 with⟨hkm,hyv⟩|⟨hkm,hy2⟩
    ·rw[hyv]
     rcases hat with h|⟨g,h,hg⟩
     ·rw[h];exact s.apart j m x v hjm hx2 hv
     ·rw[h]
      cases hxo:x.ownBlock with
      |none=>exact .inl rfl
      |some g'=>
       refine .inr fun e=> ?_
       cases e
       have:=s.bA5 (Q7.2 (.inr (.inr ⟨x,hx2.mem,hxo⟩)))
       omega
    ·exact s.apart j k x y hjk hx2 hy2
 refine⟨s',s.turn s' (hB.setCell hR.2 _) (fun k hk ho=> ?_) hsub⟩
 have hkR:k≠R:=by rintro rfl;rw[Q7.2 (.inr (.inl rfl))]at ho;cases ho
 refine(Below.heap_setCell _ _ _ _ hkR).trans (hoth k hk ?_)
 intro e
 rw[Q7.2 (.inr (.inr ⟨v,hv.mem,e.symm⟩))]at ho;cases ho
theorem St.sl (s:St HF n0 UB R tI tL W vs u plan) (hn:plan.length≤1000) (hl:∀l∈plan,l.length≤1000):Sl (Y8 HF UB R vs W) (.slice (some ⟨R,0,none⟩) plan.length plan.length) plan:=by
 have hR:=s.new R (Q7.2 (.inr (.inl rfl)))
 have key:∀(n:Nat),P6 (Y8 HF UB R vs W) (plan.drop n) (vs.drop n):=by
  intro n
  generalize hd:plan.length-n=d
  induction d generalizing n with
  |zero=>
   rw[List.drop_eq_nil_iff.2 (by omega),List.drop_eq_nil_iff.2 (by rw[s.len];omega)];rfl
  |succ d ih=>
   have hnp:n<plan.length:=by omega
   have hnv:n<vs.length:=by rw[s.len];exact hnp
   rw[List.drop_eq_getElem_cons hnp,List.drop_eq_getElem_cons hnv]
   refine⟨[vs[n]],vs.drop (n+1),rfl,⟨_,rfl, ?_⟩,ih (n+1) (by omega)⟩
   have hlA:At plan n plan[n]:=fg0 hnp
   have hvA:At vs n vs[n]:=fg0 hnv
   have hr:=s.rows n _ _ hlA hvA
   have hlen:=hl _ hlA.mem
   have hi:∀x∈plan[n],K8 x:=fun x hx=>s.i64 x (List.mem_flatten.2 ⟨_,hlA.mem,hx⟩)
   rcases hr.2 with⟨hv,hz⟩|⟨g,cap,cur,hv,hb,hg,hnc,hcm,hcs,htake⟩
   ·rw[hv,List.eq_nil_of_length_eq_zero hz];exact Sl.Y9 _
   ·have hown:ownB UB R vs g=true:=Q7.2 (.inr (.inr ⟨_,hvA.mem,by rw[hv];rfl⟩))
    rw[hv]
    refine⟨_,cap,rfl,hnc,by simp only[maxLen]at hcm;omega,by simp only[Enc.M4];omega,.inr ⟨g,0,cur,tI,(0,0),rfl,(aB8 W (s.new g hown).1 hown).trans hg,by simp[Enc.sz,hcs];omega, ?_⟩⟩
    rw[ff6,af6]
    exact⟨by simpa [Enc.sz]using htake,hi⟩
 refine⟨_,plan.length,rfl,fh0 _,by omega,by simp only[Enc.M4];omega,.inr ⟨R,0,vs.toArray,tL,(0,0),rfl,(aB8 W hR.1 (Q7.2 (.inr (.inl rfl)))).trans s.rr,by simp[Enc.sz,s.len], ?_⟩⟩
 have h0:=key 0
 simp only[ff6]at h0
 simp only[ff6,Enc.sz,Nat.mul_one,←s.len]
 rw[List.take_length]
 exact h0
end
end
end Go.Proofs.YtbliehinagkldaaGreatDoor
