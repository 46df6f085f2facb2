/- Lemmas and the walk of the law OverseerSaid (names and blanks made short by a program). -/
import Derived.Test.YtbliehinagkldaaGreatDoorG18
set_option linter.all false
set_option maxRecDepth 100000
set_option maxHeartbeats 16000000
open Go.Lib renaming hid → fe6
open List renaming setIfInBounds_toArray → fe7, getElem?_cons_zero → fe8, getElem?_cons_succ → fe9, getElem?_toArray → ff0, set_cons_zero → ff1, set_cons_succ → ff2, getD_eq_getElem?_getD → ff3, length_append → ff4, drop_succ_cons → ff5, drop_zero → ff6, length_singleton → ff7, length_cons → ff8, nil_append → ff9, getElem?_eq_getElem → fg0, length_nil → fg1, cons_append → fg2, push_toArray → fg3, length_map → fg5, length_take → fg6, take_of_length_le → fg7
open Array renaming replicate_zero → fg8, replicate_succ → fg9
open Nat renaming le_refl → fh0, le_trans → fh1, add_zero → fh2, zero_le → fh3, reduceAdd → fh6, reduceSub → fh7
open Int renaming toNat_natCast → fh8
namespace Go.Proofs.YtbliehinagkldaaGreatDoor
section
open Go.RowKit
theorem Sl.take {α:Type} [Enc α] {H:j5} {a:Option Addr} {n c:Nat} {xs:List α} (h:Sl H (.slice a n c) xs) {k:Nat} (hk:k≤xs.length):Sl H (.slice a k c) (xs.take k):=by
 obtain⟨a',c',e,h1,h2,h3,h4⟩:=h
 cases e
 have hlen:(xs.take k).length=k:=by simp;omega
 refine⟨a,c,by rw[hlen],by omega,h2,fh1 (Nat.mul_le_mul_right _ (by omega)) h3, ?_⟩
 rcases h4 with h4|⟨b,o,cur,e,fr,rfl,hb,ho,hr⟩
 ·subst h4;simp
 ·refine .inr ⟨b,o,cur,e,fr,rfl,hb, ?_, ?_⟩
  ·rw[hlen];exact fh1 (Nat.add_le_add_left (Nat.mul_le_mul_right _ hk) o) ho
  ·rw[hlen]
   have e1:xs=xs.take k++xs.drop k:=(List.take_append_drop k xs).symm
   rw[e1]at hr
   obtain⟨c1,c2,e2,hr1,_⟩:=hr.split
   have hl1:=hr1.len
   rw[hlen]at hl1
   have:(cur.toList.drop o).take (k*Enc.sz α)=c1:=by
    have h5:=congrArg (List.take (k*Enc.sz α)) e2
    rw[←hl1,List.take_left,hl1,List.take_take,Nat.min_eq_left (by rw[←e1];exact Nat.mul_le_mul_right _ hk)]at h5
    exact h5
   rw[this];exact hr1
end
section
theorem ck7 (t:D5) (l:List F7) (x:F7):O3 t (l++[x])=O3 t l++[(M8 (Z5 t l) x).2]:=by
 induction l generalizing t with
 |nil=>rfl
 |cons y l ih=>show _::O3 _ (l++[x])=_;rw[ih];rfl
end
section
open Go.RowKit Go.ChangeShapes Go.WideShapes Go.Deep
theorem aJ9 (w:World):j4 (ad6 w) w:=⟨fun _ _ e=>e⟩
end
section
theorem ay0 (a b:ByteArray):C9 (J8 (C8 a++32::C8 b))=C9 a++C9 b:=by
 unfold C9
 rw[show C8 (J8 (C8 a++32::C8 b))=C8 a++32::C8 b from rfl,bi7,List.map_append]
theorem ap5 {a:ByteArray} (h:∀b∈C8 a,b≠32):C9 a=[a]:=by
 unfold C9
 rw[aF1 h]
 rfl
theorem ca0 (a:ByteArray):C9 a≠[]:=fun e=>aB3 (C8 a) (by unfold C9 at e;exact List.map_eq_nil_iff.1 e)
theorem da9 (n:Int):∀b∈Lib.itoa n,b≠32:=fun b hb e=>by
 have key:∀u,b∈Lib.decDigits u→False:=fun u hu=>by
  have:=ah8.1 (List.all_eq_true.1 (aU5 u) b hu)
  rw[e]at this
  have h32:(32:UInt8).toNat=32:=rfl
  omega
 unfold Lib.itoa at hb
 split at hb
 ·rcases List.mem_cons.1 hb with h|h
  ·rw[e]at h;cases h
  ·exact key _ h
 ·exact key _ hb
end
section
theorem df9 (t:D5) (l m:List F7):aZ9 t (l++m)=aZ9 t l++aZ9 (Z5 t l) m:=by
 induction l generalizing t with
 |nil=>rfl
 |cons x l ih=>show _++aZ9 _ (l++m)=_;rw[ih,←List.append_assoc];rfl
theorem dU5 (t:D5) (l:List F7):aZ9 t (l++[E9])=aZ9 t l:=by rw[df9];exact List.append_nil _
theorem dH0 {t:D5} {x:F7} (h:(M8 t x).2=false):(M8 t x).1=t:=by
 unfold M8 at*
 split at h
 ·rename_i hk
  rw[if_pos hk]
  unfold changed at*
  cases ho:M5 t x.word x.nums with
  |none=>rfl
  |some o=>
   rw[ho]at h
   simp only at h ⊢
   split at h
   ·cases h
   ·rename_i hv;rw[if_neg hv]
 ·rename_i hk;rw[if_neg hk]
theorem cz4:∀(s:List UInt8),∀w∈R9 s,∀b∈w,b≠32:=ad1 (fun w hw b hb=>by
 have:w=[]:=by simpa [R9]using hw
 rw[this]at hb;cases hb) fun s c ih w hw b hb=>by
 rw[ap3]at hw
 unfold U7 at hw
 split at hw
 ·rcases List.mem_append.1 hw with h|h
  ·exact ih w h b hb
  ·have:w=[]:=by simpa using h
   rw[this]at hb;cases hb
 ·rename_i hc
  rcases List.mem_append.1 hw with h|h
  ·exact ih w (List.dropLast_subset _ h) b hb
  ·have e:w=(R9 s).getLastD []++[c]:=by simpa using h
   rw[e]at hb
   rcases List.mem_append.1 hb with h2|h2
   ·have hne:=aB3 s
    rw[List.getLastD_eq_getLast?,List.getLast?_eq_some_getLast hne]at h2
    exact ih _ (List.getLast_mem hne) b h2
   ·have:b=c:=by simpa using h2
    rw[this];exact hc
theorem bL1 (s:ByteArray):∀w∈C9 s,∀b∈C8 w,b≠32:=fun w hw b hb=>by
 obtain⟨x,hx,rfl⟩:=List.mem_map.1 hw
 exact cz4 (C8 s) x hx b hb
theorem bD7:∀l:List (List UInt8),l≠[]→(∀w∈l,∀b∈w,b≠32)→R9 (joinL l)=l
 |[],h,_=>absurd rfl h
 |[a],_,h=>aF1 (h a (by simp))
 |a::b::l,_,h=>by
  show R9 (a++32::joinL (b::l))=_
  rw[bi7,aF1 (h a (by simp)),bD7 (b::l) (by simp) fun w hw=>h w (List.mem_cons_of_mem _ hw)]
  rfl
theorem cM6 {l:List ByteArray} (hne:l≠[]) (h:∀w∈l,∀b∈C8 w,b≠32):C9 (J9 l)=l:=by
 rw[aU7]
 unfold C9
 rw[show C8 (J8 (joinL (l.map C8)))=joinL (l.map C8)from rfl,bD7 _ (by simpa using hne) fun w hw b hb=>by
  obtain⟨x,hx,rfl⟩:=List.mem_map.1 hw
  exact h x hx b hb]
 rw[List.map_map,show(J8 ∘ C8)=id from funext fun _=>rfl,List.map_id]
theorem do1 (s:ByteArray):C9 s≠[]:=ca0 s
theorem db1 {p:List ByteArray} (hne:p≠[]) (h:∀w∈p,∀b∈C8 w,b≠32) (hk:(A7 p).kind≠0):A8 (J9 p)=A7 p:=by
 unfold A8
 rw[cM6 hne h,bd8 hk]
end
section
theorem db2 (u:Nat):ar2 (Lib.decDigits u)=Lib.decDigits u:=by
 have h:=cm2 u
 unfold ar2
 split
 ·rename_i r hr;rw[hr]at h;exact absurd rfl h
 ·rfl
theorem db3 {n:Int} (h1: -1000000<n) (h2:n<1000000):O5 (G6 n)=some n:=by
 refine cm3 (w:=G6 n) (v:=n) rfl ?_
 show(ar2 (Lib.itoa n)).length≤6
 unfold Lib.itoa
 split
 ·exact aI6 _ 5 (by omega)
 ·rw[db2];exact aI6 _ 5 (by omega)
theorem dd7 (n:Int) (e:ByteArray):C9 (ch3 n e)=ad5::G6 n::wIs::C9 e:=by
 have h:ch3 n e=J8 (C8 ad5++32::C8 (J8 (C8 (G6 n)++32::C8 (J8 (C8 wIs++32::C8 e))))):=by
  unfold ch3
  show J8 _=J8 ([108,105,110,101]++32::(C8 (G6 n)++32::([105,115]++32::C8 e)))
  simp
 rw[h,ay0,ay0,ay0,ap5 (a:=ad5) (by decide),ap5 (a:=wIs) (by decide),ap5 (a:=G6 n) (da9 n)]
 rfl
theorem cM8 {w:ByteArray} {l:List ByteArray} (h:O5 w=none):T9 (w::l)=none:=by unfold T9;rw[h]
theorem cz5 {w:ByteArray} {l:List ByteArray} (h:T9 l=none):T9 (w::l)=none:=by unfold T9;rw[h];split<;>simp_all
theorem ce1 {n:Int} {e:ByteArray} (h1: -1000000<n) (h2:n<1000000):A8 (ch3 n e)=if C9 e=[au8]then{E9 with kind:=6,of:=n}else if(A7 (C9 e)).kind=1 then{A7 (C9 e)with kind:=5,of:=n}else E9:=by
 unfold A8
 rw[dd7]
 have h0:A7 (ad5::G6 n::wIs::C9 e)=E9:=aN9 (cz5 (cM8 (by decide)))
 unfold ac8
 rw[if_neg (by rw[h0];decide)]
 simp only[db3 h1 h2]
 rw[if_neg (by decide),if_neg (by decide),if_pos trivial,if_neg]
 rintro(h|h)
 ·exact do1 e h
 ·exact h rfl
theorem dg1:C9 au8=[au8]:=ap5 (by decide)
theorem aR6 {n:Int} (h1: -1000000<n) (h2:n<1000000):A8 (ch3 n au8)={E9 with kind:=6,of:=n}:=by rw[ce1 h1 h2,if_pos dg1]
theorem ax3 {n:Int} {e:ByteArray} (h1: -1000000<n) (h2:n<1000000) (he:(A8 e).kind=1):A8 (ch3 n e)={A8 e with kind:=5,of:=n}:=by
 have e1:A8 e=A7 (C9 e):=bH4 (.inl he)
 rw[ce1 h1 h2,if_neg,←e1,if_pos he]
 intro hs
 rw[e1,hs]at he
 revert he
 decide
theorem dU6 {l:List F7} {x:F7} (hk:x.kind=5∨x.kind=6) (he:at5 l x.of=true):aa4 (l++[x])=(aa4 l).set x.of.toNat (av1 x)++[E9]:=by
 rw[aD5]
 unfold ak4
 rw[if_neg (by omega),if_pos ⟨hk,he⟩]
 rfl
theorem db4 {l:List F7} {x:F7} (hk:x.kind≠1) (he:(x.kind=5∨x.kind=6)→at5 l x.of=false):aa4 (l++[x])=aa4 l++[E9]:=by
 rw[aD5]
 unfold ak4
 rw[if_neg hk,if_neg]
 rintro⟨h1,h2⟩
 rw[he h1]at h2;cases h2
theorem dH2 {l:List F7} {x:F7} (hk:x.kind=1):aa4 (l++[x])=aa4 l++[x]:=by
 rw[aD5]
 unfold ak4
 rw[if_pos hk]
def cm6 (x:F7):F7:=if x.kind=1 then x else E9
theorem aI7:∀l:List F7,(∀x∈l,x.kind≠5∧x.kind≠6)→aa4 l=l.map cm6:=ad1 (fun _=>rfl) fun l x ih h=>by
 have hx:=h x (by simp)
 rw[List.map_append,List.map_singleton,←ih fun y hy=>h y (by simp[hy])]
 by_cases hk:x.kind=1
 ·rw[dH2 hk];unfold cm6;rw[if_pos hk]
 ·rw[db4 hk (by omega)];unfold cm6;rw[if_neg hk]
theorem ce3 {l:List F7} {n:Int}:at5 l n=true↔0≤n∧n<(l.length:Int)∧(l.getD n.toNat E9).kind=1:=by
 unfold at5;simp[and_assoc]
theorem ee4 {l m:List F7} {n:Int} (h:n<(l.length:Int)):at5 (l++m) n=at5 l n:=by
 by_cases h0:0≤n
 ·have hl:n.toNat<l.length:=by omega
  have e:(l++m).getD n.toNat E9=l.getD n.toNat E9:=by
   rw[ff3,ff3,List.getElem?_append_left hl]
  have key:=ce3 (l:=l++m) (n:=n)
  have eG7:=ce3 (l:=l) (n:=n)
  rw[e]at key
  rw[ff4]at key
  cases h1:at5 l n with
  |true=>obtain⟨a,b,c⟩:=eG7.1 h1;exact key.2 ⟨a,by omega,c⟩
  |false=>
   cases h2:at5 (l++m) n with
   |false=>rfl
   |true=>
    obtain⟨a,b,c⟩:=key.1 h2
    rw[eG7.2 ⟨a,h,c⟩]at h1;cases h1
 ·have a1:¬at5 (l++m) n=true:=fun h=>h0 (ce3.1 h).1
  have a2:¬at5 l n=true:=fun h=>h0 (ce3.1 h).1
  simp only[Bool.not_eq_true]at a1 a2
  rw[a1,a2]
theorem bM2 {l:List ByteArray} {n:Nat} (h:n<l.length):(l.map A8).getD n E9=A8 (l.getD n ⟨#[]⟩):=by
 rw[ff3,ff3,List.getElem?_map,fg0 h];rfl
theorem bj0 {x:F7} (h:x.kind=1):cm6 x=x:=by unfold cm6;rw[if_pos h]
end
section
def ch4 (x:F7):Prop:=x.kind=1→A8 x.text=x
theorem db5:ch4 E9:=fun h=>by cases h
theorem db6 (s:ByteArray):ch4 (A8 s):=fun h=>by rw[(ca2 (.inl h)).1]
theorem do2 (s:ByteArray):ch4 (av1 (A8 s)):=by
 by_cases h:(A8 s).kind=5
 ·obtain⟨a,b,c,e,h1,h2,h3,h4⟩:=ca3 h
  intro _
  rw[h4,(av0 (p:=e) (by omega)).1,db1 h2 (fun w hw=>bL1 s w (by rw[h1];simp[hw])) (by omega)]
 ·rw[bU3 h];exact db5
theorem do3 (l:List ByteArray):∀x∈aa4 (l.map A8),ch4 x:=cF5 db5 (fun x hx _=>by
 obtain⟨s,_,rfl⟩:=List.mem_map.1 hx;exact db6 s) fun x hx=>by
 obtain⟨s,_,rfl⟩:=List.mem_map.1 hx;exact do2 s
def ai8 (t:D5):List F7→List F7
 |[]=>[]
 |x::l=>(if(M8 t x).2 then [x]else [])++ai8 (M8 t x).1 l
theorem bL2 (t:D5) (l:List F7):aZ9 t l=(ai8 t l).map (·.text):=by
 induction l generalizing t with
 |nil=>rfl
 |cons x l ih=>
  unfold aZ9 ai8
  rw[ih,List.map_append]
  split<;>rfl
theorem cf6 {t:D5} {x:F7} (h:(M8 t x).2=true):x.kind=1:=by
 unfold M8 at h
 split at h
 ·assumption
 ·cases h
theorem do4 (t:D5) (l:List F7):∀x∈ai8 t l,x∈l∧x.kind=1:=by
 induction l generalizing t with
 |nil=>intro x hx;cases hx
 |cons y l ih=>
  intro x hx
  unfold ai8 at hx
  rcases List.mem_append.1 hx with hx|hx
  ·split at hx
   ·rename_i hy
    have:x=y:=by simpa using hx
    subst this
    exact⟨by simp,cf6 hy⟩
   ·cases hx
  ·have:=ih _ x hx
   exact⟨by simp[this.1],this.2⟩
theorem cm7 (t:D5) (l:List F7):(ai8 t l).Sublist l:=by
 induction l generalizing t with
 |nil=>exact List.Sublist.slnil
 |cons x l ih=>
  unfold ai8
  split
  ·exact(ih _).cons_cons x
  ·exact(ih _).cons x
theorem cM9 (t:D5) (l:List F7):Z5 t (ai8 t l)=Z5 t l∧ai8 t (ai8 t l)=ai8 t l∧O3 t (ai8 t l)=List.replicate (ai8 t l).length true:=by
 induction l generalizing t with
 |nil=>exact⟨rfl,rfl,rfl⟩
 |cons x l ih=>
  cases h:(M8 t x).2 with
  |true=>
   obtain⟨a,b,c⟩:=ih (M8 t x).1
   have e:ai8 t (x::l)=x::ai8 (M8 t x).1 l:=by
    show(if(M8 t x).2=true then [x]else [])++_=_
    rw[h];rfl
   rw[e]
   refine⟨a, ?_, ?_⟩
   ·show(if(M8 t x).2=true then [x]else [])++ai8 _ (ai8 _ l)=_
    rw[h,b];rfl
   ·show(M8 t x).2::O3 _ (ai8 _ l)=_
    rw[h,c,ff8,List.replicate_succ]
  |false=>
   have e1:=dH0 h
   have e:ai8 t (x::l)=ai8 t l:=by
    show(if(M8 t x).2=true then [x]else [])++ai8 (M8 t x).1 l=_
    rw[h,e1];rfl
   rw[e]
   have:=ih t
   refine⟨?_,this.2⟩
   show _=Z5 (M8 t x).1 l
   rw[e1];exact this.1
theorem bD8 (t:D5):∀l:List ByteArray,(∀s∈l,(A8 s).kind=1)→(M6 t l).ans=(O3 t (l.map A8)).map ae4:=ad1 (fun _=>rfl) fun l s ih h=>by
 have hl:=fun x (hx:x∈l)=>h x (by simp[hx])
 have hs:=h s (by simp)
 have hn:aa4 (l.map A8)=l.map A8:=by
  rw[aI7 _ fun x hx=>by
   obtain⟨y,hy,rfl⟩:=List.mem_map.1 hx
   have:=hl y hy;omega]
  rw[List.map_map]
  exact List.map_congr_left fun y hy=>bj0 (hl y hy)
 rw[bj1,ih hl,hn,List.map_append,List.map_singleton,ck7,List.map_append,List.map_singleton]
 unfold ap9 M8
 rw[if_neg (by omega),if_pos hs,if_pos hs]
theorem bo7 {p:F7→Bool}:∀(l:List F7) (k:Nat) (y:F7),(l.set k y).countP p≤l.countP p+(if p y then 1 else 0)
 |[],k,y=>by simp
 |x::l,0,y=>by
  rw[ff1,List.countP_cons,List.countP_cons];omega
 |x::l,k+1,y=>by
  have:=bo7 (p:=p) l k y
  rw[ff2,List.countP_cons,List.countP_cons];omega
theorem bU4:aT0 E9=false:=by decide
theorem cN0 (x:F7):(if aT0 (av1 x)then 1 else 0)≤(if aT0 x then 1 else 0):=by
 by_cases h:x.kind=5
 ·rw[db7 h];exact fh0 _
 ·rw[bU3 h,bU4];simp
theorem dH4:∀l:List F7,(aa4 l).countP aT0≤l.countP aT0:=ad1 (fh0 _) fun l x ih=>by
 have hx:=cN0 x
 rw[aD5,List.countP_append,List.countP_singleton]
 unfold ak4
 split
 ·rw[List.countP_append,List.countP_singleton];omega
 ·split
  ·rw[List.countP_append,List.countP_singleton,bo6,bU4]
   have:=bo7 (p:=aT0) (aa4 l) x.of.toNat (av1 x)
   simp only[Bool.false_eq_true,if_false]
   omega
  ·rw[List.countP_append,List.countP_singleton,bU4]
   simp only[Bool.false_eq_true,if_false]
   omega
theorem do6 {t:D5} {l:List ByteArray} (v:F6 t=true) (hl:l.length≤24):
 (∀s∈O0 t l,(A8 s).kind=1)∧(O0 t l).length≤l.length∧Y1 t (O0 t l)=List.replicate (O0 t l).length wOk∧V5 t (O0 t l)=V5 t l∧O0 t (O0 t l)=O0 t l∧
  (∀n,(∀s∈l,s.size≤n)→∀s∈O0 t l,s.size≤n)∧aK1 (O0 t l)≤aK1 l:=by
 have hk:O0 t l=(ai8 t (aa4 (l.map A8))).map (·.text):=by rw[aS9 v hl,bL2]
 have hg:=do3 l
 have hm:=do4 t (aa4 (l.map A8))
 have hr:(O0 t l).map A8=ai8 t (aa4 (l.map A8)):=by
  rw[hk,List.map_map]
  refine(List.map_congr_left (g:=id) fun x hx=> ?_).trans (List.map_id _)
  exact hg x (hm x hx).1 (hm x hx).2
 have h1:∀s∈O0 t l,(A8 s).kind=1:=fun s hs=>by
  rw[hk]at hs
  obtain⟨x,hx,rfl⟩:=List.mem_map.1 hs
  rw[hg x (hm x hx).1 (hm x hx).2]
  exact(hm x hx).2
 have h2:(O0 t l).length≤l.length:=by
  rw[hk,fg5]
  have:=(cm7 t (aa4 (l.map A8))).length_le
  rw[bt8,fg5]at this
  exact this
 have hn:aa4 ((O0 t l).map A8)=ai8 t (aa4 (l.map A8)):=by
  rw[hr,aI7 _ fun x hx=>by have:=(hm x hx).2;omega]
  exact(List.map_congr_left (g:=id) fun x hx=>bj0 (hm x hx).2).trans (List.map_id _)
 obtain⟨a,b,c⟩:=cM9 t (aa4 (l.map A8))
 refine⟨h1,h2, ?_, ?_, ?_, ?_, ?_⟩
 ·rw[ap6 v (by omega),bD8 t _ h1,hr,c,List.map_replicate,←hr,fg5]
  rfl
 ·rw[aK0 v (by omega),aK0 v hl,hn,a]
 ·rw[aS9 v (l:=O0 t l) (by omega),hn,bL2,b,←hk]
 ·intro n hs s h
  rw[hk]at h
  obtain⟨x,hx,rfl⟩:=List.mem_map.1 h
  exact bH5 hs x (hm x hx).1
 ·unfold aK1
  rw[hr]
  exact fh1 ((cm7 t _).countP_le) (dH4 _)
theorem cF6 (t:D5) (l:List ByteArray):(M6 t l).ans.length=l.length:=(ax9 t l).1
end
section
open Go.RowKit Go.ChangeShapes Go.WideShapes Go.Deep
section
variable {H:Type} {enc:TypeId × Value→H} {W:World} {sp:Nat→Bool} {hd:Bool}
theorem dD8 {H:Type} (d:DataW H):1≤Rows.uptoBulk d:=by
 cases d with
 |lit l=>cases l<;>simp[Rows.uptoBulk]
 |nil=>simp[Rows.uptoBulk]
 |ptr d=>simp[Rows.uptoBulk]
 |slice elems spare=>simp[Rows.uptoBulk]
 |agg parts=>simp[Rows.uptoBulk]
 |iface t d=>simp[Rows.uptoBulk]
 |map entries=>simp[Rows.uptoBulk]
 |held h=>simp[Rows.uptoBulk]
theorem ce6 {H:Type} {d:DataW H} {l:List (DataW H)} (h:d∈l):Rows.uptoBulk d≤Rows.uptoBulkAll l:=by
 induction l with
 |nil=>cases h
 |cons x r ih=>
  simp only[Rows.uptoBulkAll]
  cases List.mem_cons.1 h with
  |inl e=>subst e;omega
  |inr e=>have:=ih e;omega
theorem dD9 {H:Type} (l:List (DataW H)):l.length≤Rows.uptoBulkAll l:=by
 induction l with
 |nil=>simp[Rows.uptoBulkAll]
 |cons x r ih=>have:=dD8 x;simp only[Rows.uptoBulkAll,ff8];omega
theorem dd8 {H:Type} (elems spare:List (DataW H)):Rows.uptoBulkAll elems+1≤Rows.uptoBulk (.slice elems spare):=by
 simp only[Rows.uptoBulk]
 omega
theorem de1 {n:Nat} {v:Value} {y:DataW H × List MemPlace} {xs:List ByteArray} (h:DataW.trod enc Tryz.prog W 0 sp hd n 33 [v]=some y) (hs:Sl (ad6 W) v xs):
 xs.length≤Rows.uptoBulk y.1∧∀s∈xs,s.size≤Rows.uptoBulk y.1:=by
 have hc:Tryz.prog.cellsOf 9=1:=by kernel_rfl
 obtain⟨a',c',ev,_,_⟩:=hs.form
 rcases open_slice Tryz.underlying33 h with⟨hcs,_⟩|⟨a,len,cap,m,n',D,Pl,hcs,_,hl,hm,hmm,rfl,hx⟩
 ·simp at hcs
  subst hcs
  have h0:xs.length=0:=by simp at ev;omega
  have:xs=[]:=List.length_eq_zero_iff.1 h0
  subst this
  exact⟨fh3 _,fun s hs=>by cases hs⟩
 ·simp at hcs
  subst hcs
  have h0:len=xs.length:=by simp at ev;omega
  have hlm:len≤m:=by rw[hmm];split<;>omega
  have hb:=dd8 ((List.range len).map D) ((List.range (m-len)).map fun j=>D (len+j))
  have hn:=dD9 ((List.range len).map D)
  rw[fg5,List.length_range]at hn
  refine⟨by show _≤Rows.uptoBulk (DataW.slice _ _);omega,fun s hsm=> ?_⟩
  obtain⟨k,hk⟩:=List.mem_iff_getElem?.1 hsm
  have hkl:k<xs.length:=(List.getElem?_eq_some_iff.1 hk).1
  obtain⟨b,o,c,e,_,p⟩:=hs.str (show At xs k s from hk)
  have hp:=p W (aJ9 W)
  obtain⟨cs,hcs,ht⟩:=hx k (by omega)
  obtain⟨_,hl1,hg1⟩:=World.cells?_some hcs
  rw[hc]at hl1 hg1
  have hg:=hg1 0 (by omega)
  simp at e
  obtain⟨ea,_,_⟩:=e
  subst ea
  rw[Addr.add_lit,Addr.add_lit]at hg
  obtain⟨s',rfl,ey,_⟩:=DataW.trod_string Tryz.underlying9 ht
  have dW7:W.cell? ⟨b,o+k,none⟩=some (.string s'):=by simpa [hc]using hg
  have hss:s'=s:=by rw[hp]at dW7;simpa using dW7.symm
  subst hss
  have hD:D k= .lit (.string s'.data.toList):=(Prod.mk.inj ey).1
  have h1:Rows.uptoBulk (D k)≤Rows.uptoBulkAll ((List.range len).map D):=ce6 (List.mem_map.2 ⟨k,List.mem_range.2 (by omega),rfl⟩)
  rw[hD]at h1
  have h2:s'.data.toList.length≤Rows.uptoBulk (DataW.lit (H:=H) (.string s'.data.toList)):=by simp[Rows.uptoBulk]
  have h3:s'.size=s'.data.toList.length:=rfl
  show _≤Rows.uptoBulk (DataW.slice _ _)
  omega
end
end
section
open Go.RowKit Go.ChangeShapes Go.WideShapes Go.Deep Go.Joins
section
variable {H:Type} {enc:TypeId × Value→H} {W:World} {sp:Nat→Bool} {hd:Bool}
theorem cO4:Tryz.prog.cellsOf 3=1:=by kernel_rfl
theorem cO5:Tryz.prog.cellsOf 9=1:=by kernel_rfl
theorem dI6 {α:Type} {cs:Array α} (h:cs.size=2):∃a b,cs= #[a,b]:=by
 obtain⟨l⟩:=cs
 match l,h with
 |[a,b],_=>exact⟨a,b,rfl⟩
theorem co0 {r:Reach} {b0:Nat} {v:Value} {d:DataW H} {p:List MemPlace} (hv:Value.okWide Tryz.prog W r b0 78 v) (h:DataW.Trod enc Tryz.prog W 0 sp hd 78 v d p) (hw:∀k∈d.weights Tryz.prog 78,k≤reachBytes):
 ∃(q:ByteArray) (n:Int),v= .agg #[.string q,.int .i64 n]∧q.size≤140737488355328∧K8 n:=by
 obtain⟨cs,rfl,hsz⟩:=okWide_struct Tryz.underlying78 hv
 obtain⟨c0,c1,rfl⟩:=dI6 (hsz.trans (by kernel_rfl))
 obtain⟨fuel,hf⟩:=h
 obtain⟨y0,y1,n,ex,_,h0,h1⟩:=trod_struct2 Tryz.underlying78 hf
 simp only[Value.cells,cO5,cO4,ff6,ff5,List.take_succ_cons,List.take_zero]at h0 h1
 obtain⟨rfl,-⟩:=Prod.mk.inj ex
 simp only[DataW.weights,Tryz.underlying78,List.map_cons,List.map_nil,DataW.weightsEach,List.mem_append,List.append_nil]at hw
 obtain⟨q,hq,hqz⟩:=cG0 _ _ _ h0 (fun k hk=>hw k (by simp[hk]))
 obtain⟨k1,e1,_,w1⟩:=DataW.trod_int Tryz.underlying3 h1
 simp at hq e1
 subst hq;subst e1
 exact⟨q,k1,rfl,hqz,ah7 w1⟩
theorem dW9 (n:Nat) (cs:List Value) (y:DataW H × List MemPlace) (h:DataW.trod enc Tryz.prog W 0 sp hd n 35 cs=some y) (hw:∀k∈y.1.weights Tryz.prog 35,k≤reachBytes):
 ∃(q:ByteArray) (k:Int),cs=[.int .i64 k,.string q]∧q.size≤140737488355328∧K8 k:=by
 obtain⟨y0,y1,m,ex,hl,h0,h1⟩:=trod_struct2 Tryz.underlying35 h
 match cs,hl.trans (by kernel_rfl:_=2)with
 |[c0,c1],_=>
  simp only[cO4,cO5,ff6,ff5,List.take_succ_cons,List.take_zero]at h0 h1
  subst ex
  simp only[DataW.weights,Tryz.underlying35,List.map_cons,List.map_nil,DataW.weightsEach,List.mem_append,List.append_nil]at hw
  obtain⟨k0,e0,_,w0⟩:=DataW.trod_int Tryz.underlying3 h0
  obtain⟨q,hq,hqz⟩:=cG0 _ _ _ h1 (fun k hk=>hw k (by simp[hk]))
  simp at hq e0
  subst hq;subst e0
  exact⟨q,k0,rfl,hqz,ah7 w0⟩
theorem de2 {r:Reach} {b0:Nat} {v:Value} {d:DataW H} {p:List MemPlace} (hv:Value.okWide Tryz.prog W r b0 35 v) (h:DataW.Trod enc Tryz.prog W 0 sp hd 35 v d p) (hw:∀k∈d.weights Tryz.prog 35,k≤reachBytes):
 ∃(q:ByteArray) (n:Int),v= .agg #[.int .i64 n,.string q]∧q.size≤140737488355328∧K8 n:=by
 obtain⟨cs,rfl,hsz⟩:=okWide_struct Tryz.underlying35 hv
 obtain⟨c0,c1,rfl⟩:=dI6 (hsz.trans (by kernel_rfl))
 obtain⟨fuel,hf⟩:=h
 obtain⟨q,k,e,h1,h2⟩:=dW9 _ _ _ hf hw
 simp[Value.cells]at e
 obtain⟨rfl,rfl⟩:=e
 exact⟨q,k,rfl,h1,h2⟩
end
end
section
def aB2 (was is:List Bool) (k:Nat):List (Nat × Bool):=(List.range k).filterMap fun i=>if is.getD i false=was.getD i false then none else some (i,is.getD i false)
theorem cH8 (was is:List Bool) (k:Nat):aB2 was is (k+1)=aB2 was is k++(if is.getD k false=was.getD k false then []else [(k,is.getD k false)]):=by
 unfold aB2
 rw[List.range_succ,List.filterMap_append]
 congr 1
 by_cases h:is.getD k false=was.getD k false
 ·rw[if_pos h];simp only[List.filterMap_cons,if_pos h,List.filterMap_nil]
 ·rw[if_neg h];simp only[List.filterMap_cons,if_neg h,List.filterMap_nil]
def aL6 (p:Nat × Bool):List UInt8:=C8 (G6 (p.1:Int))++58::C8 (ae4 p.2)
def ap1 (p:Nat × Bool):ByteArray:=J8 (aL6 p)
theorem bx7 (was is:List Bool):∀k,aP1 was is k=(aB2 was is k).flatMap fun p=>32::aL6 p
 |0=>rfl
 |k+1=>by
  rw[cy2,cH8,List.flatMap_append,bx7 was is k]
  congr 1
  by_cases h:is.getD k false=was.getD k false
  ·rw[if_pos h,if_pos h];rfl
  ·rw[if_neg h,if_neg h]
   simp only[List.flatMap_cons,List.flatMap_nil,List.append_nil]
   unfold aL6
   simp
theorem eq5 (b:Bool):∀x∈C8 (ae4 b),x≠32:=by cases b<;>decide
theorem eq6 (p:Nat × Bool):∀x∈aL6 p,x≠32:=fun x hx=>by
 unfold aL6 at hx
 rcases List.mem_append.1 hx with h|h
 ·exact da9 (p.1:Int) x (by unfold G6 C8 at h;exact h)
 ·rcases List.mem_cons.1 h with rfl|h
  ·decide
  ·exact eq5 _ x h
theorem dE3:∀(ps:List (Nat × Bool)) (a:List UInt8),(∀x∈a,x≠32)→R9 (a++ps.flatMap fun p=>32::aL6 p)=a::ps.map aL6
 |[],a,h=>by rw[List.flatMap_nil,List.append_nil];exact aF1 h
 |p::ps,a,h=>by
  rw[List.flatMap_cons,fg2,bi7,aF1 h,dE3 ps (aL6 p) (eq6 p)]
  rfl
theorem eq7 (was is:List Bool):C9 (dy4 was is)=wOk::(aB2 was is is.length).map ap1:=by
 unfold C9 dy4
 show(R9 (C8 wOk++aP1 was is is.length)).map J8=_
 rw[bx7,dE3 _ _ (by decide),List.map_cons,List.map_map]
 rfl
def aB4:List (Nat × Bool)→Int
 |[]=>0
 |p::l=>(if p.2 then 1 else-1)+aB4 l
theorem ea5 (l m:List (Nat × Bool)):aB4 (l++m)=aB4 l+aB4 m:=by
 induction l with
 |nil=>show _=0+aB4 m;rw[Int.zero_add];rfl
 |cons p l ih=>show _+aB4 (l++m)=_+aB4 l+aB4 m;rw[ih,Int.add_assoc]
def cd8 (h:List Bool) (k:Nat):Nat:=((List.range k).filter fun i=>h.getD i false).length
theorem dE4 (h:List Bool) (k:Nat):cd8 h (k+1)=cd8 h k+(if h.getD k false then 1 else 0):=by
 unfold cd8
 rw[List.range_succ,List.filter_append,ff4,List.filter_cons,List.filter_nil]
 split<;>rfl
theorem ea6 (was is:List Bool):∀k,(cd8 is k:Int)=(cd8 was k:Int)+aB4 (aB2 was is k)
 |0=>rfl
 |k+1=>by
  have ih:=ea6 was is k
  rw[dE4,dE4,cH8,ea5]
  cases hi:is.getD k false<;>cases hw:was.getD k false<;>simp[aB4]<;>omega
theorem dS1 (now:List F7) (h:List Bool) (k:Nat):(bf0 now h k).length=cd8 h k:=by unfold bf0 cd8;rw[fg5]
theorem ed1 {was is:List Bool} {k:Nat} {p:Nat × Bool} (h:p∈aB2 was is k):p.1<k∧is.getD p.1 false≠was.getD p.1 false∧p.2=is.getD p.1 false:=by
 unfold aB2 at h
 obtain⟨i,hi,he⟩:=List.mem_filterMap.1 h
 by_cases hc:is.getD i false=was.getD i false
 ·rw[if_pos hc]at he;cases he
 ·rw[if_neg hc]at he
  cases he
  exact⟨List.mem_range.1 hi,hc,rfl⟩
theorem dk4 (was is:List Bool):∀k,(aB2 was is k).Pairwise fun a b=>a.1<b.1
 |0=>List.Pairwise.nil
 |k+1=>by
  rw[cH8,List.pairwise_append]
  refine⟨dk4 was is k, ?_,fun a ha b hb=> ?_⟩
  ·split
   ·exact List.Pairwise.nil
   ·exact List.pairwise_singleton _ _
  ·split at hb
   ·cases hb
   ·rw[List.mem_singleton]at hb
    subst hb
    exact(ed1 ha).1
def ei6 (ps:List (Nat × Bool)) (k:Nat):Int:=match k with
 |0=> -1
 |k+1=>((ps.getD k (0,false)).1:Int)
theorem eq8 {was is:List Bool} {n k:Nat} {p:Nat × Bool} (h:At (aB2 was is n) k p):ei6 (aB2 was is n) k<(p.1:Int):=by
 cases k with
 |zero=>show(-1:Int)<_;omega
 |succ k=>
  obtain⟨h1,h2⟩:=List.getElem?_eq_some_iff.1 h
  have hs:=List.pairwise_iff_getElem.1 (dk4 was is n) k (k+1) (by omega) h1 (by omega)
  rw[h2]at hs
  show(((aB2 was is n).getD k (0,false)).1:Int)<_
  rw[ff3,fg0 (show k<(aB2 was is n).length by omega)]
  show(((aB2 was is n)[k]).1:Int)<_
  omega
theorem dF4 {written now:List F7} (d:ac7 written now) (g:D5) {i:Nat} (h:at5 written (i:Int)=false):(O3 g now).getD i false=false:=by
 by_cases hlt:i<now.length
 ·rw[aU0 g now hlt,bi9 (d.no i fun hk=>by
   have:at5 written (i:Int)=true:=ce3.2 ⟨by omega,by rw[←d.len];omega,by rw[fh8];exact hk⟩
   rw[this]at h;cases h)]
 ·rw[ff3,List.getElem?_eq_none (by rw[aE9];omega)];rfl
def bq5 (n:Int):ByteArray:=J8 ([114,101,97,100,115,32]++C8 (G6 n))
theorem ek7 (n:Int):C9 (bq5 n)=[Z6,G6 n]:=by
 have:bq5 n=J8 (C8 Z6++32::C8 (G6 n)):=rfl
 rw[this,ay0,ap5 (by decide),ap5 (a:=G6 n) (fun b hb=>da9 n b hb)];rfl
theorem cI8 {n:Int} (h1: -1000000<n) (h2:n<1000000):A8 (bq5 n)={E9 with kind:=4,of:=n}:=by
 have hs:=ek7 n
 have hn:=db3 h1 h2
 have h0:A7 [Z6,G6 n]=E9:=by
  unfold A7
  have:T9 [G6 n]=some [n]:=by unfold T9;rw[hn];rfl
  rw[show [Z6,G6 n].tail=[G6 n]from rfl,this]
  simp only[List.headD_cons,show ¬U3 Z6=(([n]:List Int).length:Int)by rw[show U3 Z6= -1 by decide];simp,show ¬Y3 Z6=(([n]:List Int).length:Int)by rw[show Y3 Z6= -1 by decide];simp,if_false]
 unfold A8 ac8
 rw[hs,if_neg (by rw[h0];decide)]
 simp only[hn]
 rfl
def ak9 (k:Nat):List ByteArray:=(List.range k).map fun i:Nat=>bq5 (i:Int)
theorem cJ0 (k:Nat):ak9 (k+1)=ak9 k++[bq5 (k:Int)]:=by unfold ak9;rw[List.range_succ,List.map_append];rfl
theorem av6 (k:Nat):(ak9 k).length=k:=by unfold ak9;simp
def bq6 (written now:List F7) (i:Nat):ByteArray:=if at5 written (i:Int)then(if(now.getD i E9).kind=1 then(now.getD i E9).text else au8)else at0
theorem ej7 (l:List F7):∀k,k≤1000→aa4 (l++(ak9 k).map A8)=aa4 l++List.replicate k E9
 |0,_=>by simp[ak9]
 |k+1,h=>by
  rw[cJ0,List.map_append,List.map_singleton,←List.append_assoc,db4 (by rw[cI8 (by omega) (by omega)];exact(by decide:(4:Int)≠1)) (fun h'=>by rw[cI8 (by omega) (by omega)]at h';rcases h' with h'|h'<;>cases h'),ej7 l k (by omega),List.append_assoc,←List.replicate_succ']
theorem cJ1 (t:D5) (l:List ByteArray):∀k,k≤l.length→l.length≤100→(M6 t (l++ak9 k)).ans=(M6 t l).ans++(List.range k).map (bq6 (l.map A8) (aa4 (l.map A8)))
 |0,_,_=>by simp[ak9]
 |k+1,h,hl=>by
  rw[cJ0,←List.append_assoc,bj1,cJ1 t l k (by omega) hl,List.range_succ,List.map_append (l₁:=List.range k),List.map_singleton,List.append_assoc,List.map_append,ej7 _ k (by omega)]
  congr 2
  congr 1
  rw[cI8 (by omega) (by omega)]
  have hent:at5 (l.map A8++(ak9 k).map A8) (k:Int)=at5 (l.map A8) (k:Int):=ee4 (by rw[fg5];omega)
  have hget:(aa4 (l.map A8)++List.replicate k E9).getD k E9=(aa4 (l.map A8)).getD k E9:=aH9 _ _ _ (by rw[bt8,fg5];omega)
  unfold ap9 bq6
  rw[if_neg (by exact(by decide:¬(4:Int)=0)),if_neg (by exact(by decide:¬(4:Int)=1)),if_neg (by exact(by decide:¬(4:Int)=2)),if_neg (by exact(by decide:¬(4:Int)=3)),if_pos rfl]
  simp only[fh8,hent,hget]
structure em7 (t:D5) (l:List ByteArray) (n:Int) (e:ByteArray) (ps:List (Nat × Bool)):Prop where
 ans:(Y1 t (l++[ch3 n e])).getD l.length ⟨#[]⟩=J8 (C8 wOk++ps.flatMap fun p=>32::aL6 p)
 split:C9 (J8 (C8 wOk++ps.flatMap fun p=>32::aL6 p))=wOk::ps.map ap1
 ent:∀k p,At ps k p→ei6 ps k<(p.1:Int)∧p.1<l.length∧at5 (l.map A8) (p.1:Int)=true
 len:((O0 t (l++[ch3 n e])).length:Int)=((O0 t l).length:Int)+aB4 ps
 was:∀i,i<l.length→(Y1 t (l++ak9 l.length)).getD (l.length+i) ⟨#[]⟩=bq6 (l.map A8) (aa4 (l.map A8)) i
 reads:∀i,i<l.length→(Y1 t ((l++[ch3 n e])++ak9 (l.length+1))).getD (l.length+1+i) ⟨#[]⟩=if(i:Int)=n then e else if at5 (l.map A8) (i:Int)then bq6 (l.map A8) (aa4 (l.map A8)) i else at0
 last:(Y1 t ((l++[ch3 n e])++ak9 (l.length+1))).getD (l.length+1+l.length) ⟨#[]⟩=at0
 few:ps.length≤l.length
theorem cE5 {α:Type} (l m:List α) (d:α) (i:Nat):(l++m).getD (l.length+i) d=m.getD i d:=by
 rw[ff3,List.getElem?_append_right (by omega),Nat.add_sub_cancel_left,ff3]
theorem bE7 {α:Type} (f:Nat→α) (d:α) {i k:Nat} (h:i<k):((List.range k).map f).getD i d=f i:=by
 rw[ff3,List.getElem?_map,List.getElem?_range h];rfl
theorem eG1 (was is:List Bool) (k:Nat):(aB2 was is k).length≤k:=by
 unfold aB2
 exact fh1 (List.length_filterMap_le _ _) (by simp)
theorem eG2 {n:Int} {e:ByteArray} (h1: -1000000<n) (h2:n<1000000) (he:(A8 e).kind=1∨e=au8):
 ((A8 (ch3 n e)).kind=5∨(A8 (ch3 n e)).kind=6)∧(A8 (ch3 n e)).of=n∧((if(av1 (A8 (ch3 n e))).kind=1 then(av1 (A8 (ch3 n e))).text else au8)=e):=by
 rcases he with he|rfl
 ·rw[ax3 h1 h2 he]
  refine⟨.inl rfl,rfl, ?_⟩
  rw[dH1 he (ca2 (.inl he)).2,if_pos he,(ca2 (.inl he)).1]
 ·rw[aR6 h1 h2]
  exact⟨.inr rfl,rfl,rfl⟩
theorem eJ6 {t:D5} {l:List ByteArray} {n:Int} {e:ByteArray} (v:F6 t=true) (hl:l.length≤11) (hn:at5 (l.map A8) n=true) (he:(A8 e).kind=1∨e=au8):∃ps,em7 t l n e ps:=by
 obtain⟨n0,n1,nk⟩:=ce3.1 hn
 rw[fg5]at n1
 obtain⟨hk,ho,htx⟩:=eG2 (e:=e) (n:=n) (by omega) (by omega) he
 obtain⟨x,hx⟩:∃x,A8 (ch3 n e)=x:=⟨_,rfl⟩
 rw[hx]at hk ho htx
 have hlm:(l++[ch3 n e]).map A8=l.map A8++[x]:=by rw[List.map_append,List.map_singleton,hx]
 have d0:ac7 (l.map A8) (aa4 (l.map A8)):=by have:=aU2 t l;rw[(aU6 t l).1,(aU6 t l).2]at this;exact this
 have d1:=d0.set (n:=n) hn (av1 x)
 have hnx:=dU6 (l:=l.map A8) (x:=x) hk (by rw[ho];exact hn)
 rw[ho]at hnx
 have hnl:(aa4 (l.map A8)).length=l.length:=by rw[bt8,fg5]
 have hsl:((aa4 (l.map A8)).set n.toNat (av1 x)).length=l.length:=by rw[List.length_set,hnl]
 have hrl:(O3 t ((aa4 (l.map A8)).set n.toNat (av1 x))).length=l.length:=by rw[aE9,hsl]
 refine⟨aB2 (O3 t (aa4 (l.map A8))) (O3 t ((aa4 (l.map A8)).set n.toNat (av1 x))) l.length, ?_, ?_, ?_, ?_, ?_, ?_, ?_,eG1 _ _ _⟩
 ·rw[ap6 v (by rw[ff4,ff7];omega),bj1,ff3,List.getElem?_append_right (by rw[cF6];exact fh0 _),cF6,Nat.sub_self]
  show ap9 _ _ _ _=_
  rw[hx]
  unfold ap9
  rw[if_neg (by omega),if_neg (by omega),if_neg (by omega),if_neg (by omega),if_neg (by omega),ho,if_pos hn,bo6,ho]
  unfold dy4
  rw[bx7,hrl]
 ·rw[show J8 (C8 wOk++(aB2 _ _ l.length).flatMap fun p=>32::aL6 p)=dy4 (O3 t (aa4 (l.map A8))) (O3 t ((aa4 (l.map A8)).set n.toNat (av1 x)))by unfold dy4;rw[bx7,hrl],eq7,hrl]
 ·intro k p hp
  have hm:=ed1 hp.mem
  refine⟨eq8 hp,hm.1, ?_⟩
  rcases bJ1 (written:=l.map A8) (n:=(p.1:Int))with h|h
  ·exact h
  ·exact absurd ((dF4 d1 t h).trans (dF4 d0 t h).symm) hm.2.1
 ·rw[aS9 v (by rw[ff4,ff7];omega),aS9 v (by omega),hlm,hnx,dU5,←do0,←do0]
  unfold bK9
  rw[dS1,dS1,hsl,hnl]
  exact ea6 _ _ _
 ·intro i hi
  rw[ap6 v (by rw[ff4,av6];omega),cJ1 t l _ (fh0 _) (by omega)]
  have:=cE5 (M6 t l).ans ((List.range l.length).map (bq6 (l.map A8) (aa4 (l.map A8)))) ⟨#[]⟩ i
  rw[cF6]at this
  rw[this,bE7 _ _ hi]
 ·intro i hi
  have h1:(l++[ch3 n e]).length=l.length+1:=by simp
  rw[ap6 v (by rw[ff4,av6,h1];omega),←h1,cJ1 t _ _ (fh0 _) (by omega)]
  have:=cE5 (M6 t (l++[ch3 n e])).ans ((List.range (l++[ch3 n e]).length).map (bq6 ((l++[ch3 n e]).map A8) (aa4 ((l++[ch3 n e]).map A8)))) ⟨#[]⟩ i
  rw[cF6]at this
  rw[this,bE7 _ _ (by omega),hlm,hnx]
  unfold bq6
  rw[ee4 (by rw[fg5];omega),aH9 _ _ _ (by rw[hsl];omega)]
  by_cases hin:(i:Int)=n
  ·rw[if_pos hin,hin,if_pos hn]
   have e1:n.toNat=i:=by omega
   rw[e1,ct8 _ _ (by rw[hnl];omega)]
   exact htx
  ·rw[if_neg hin,aX6 _ _ (by omega)]
   split<;>rfl
 ·have h1:(l++[ch3 n e]).length=l.length+1:=by simp
  rw[ap6 v (by rw[ff4,av6,h1];omega),←h1,cJ1 t _ _ (fh0 _) (by omega)]
  have:=cE5 (M6 t (l++[ch3 n e])).ans ((List.range (l++[ch3 n e]).length).map (bq6 ((l++[ch3 n e]).map A8) (aa4 ((l++[ch3 n e]).map A8)))) ⟨#[]⟩ l.length
  rw[cF6]at this
  rw[this,bE7 _ _ (by omega),hlm]
  unfold bq6
  have hne:at5 (l.map A8++[x]) (l.length:Int)=false:=by
   cases hh:at5 (l.map A8++[x]) (l.length:Int)with
   |false=>rfl
   |true=>
    have h3:=(ce3.1 hh).2.2
    rw[fh8,show l.length=(l.map A8).length by rw[fg5],aC5]at h3
    omega
  rw[hne];rfl
end
section
theorem em8 {α:Type} {l:List α} {i:Nat} {d x:α} (h:i<l.length) (e:l.getD i d=x):At l i x:=by
 unfold At
 rw[ff3,fg0 h]at e
 rw[fg0 h]
 exact congrArg some e
theorem dU4 {α:Type} {l:List α} {m i:Nat} {d x:α} (h:m+i<l.length) (e:l.getD (m+i) d=x):At (l.drop m) i x:=by
 have:=em8 h e
 unfold At at*
 rw[List.getElem?_drop]
 exact this
theorem dF8:∀l:List (Nat × Bool),-(l.length:Int)≤aB4 l∧aB4 l≤(l.length:Int)
 |[]=>by simp[aB4]
 |p::l=>by
  have h:=dF8 l
  show-((l.length+1:Nat):Int)≤(if p.2 then 1 else-1)+aB4 l∧(if p.2 then 1 else-1)+aB4 l≤((l.length+1:Nat):Int)
  split<;>omega
theorem ee0:∀ps:List (Nat × Bool),(∀p∈ps,p.1≤9999)→(ps.flatMap fun p=>32::aL6 p).length≤ps.length*8
 |[],_=>by simp
 |p::l,h=>by
  have ih:=ee0 l fun q hq=>h q (List.mem_cons_of_mem _ hq)
  have h1:(aL6 p).length≤7:=by
   unfold aL6
   rw[ff4,ff8]
   have h2:(C8 (G6 (p.1:Int))).length≤4:=by
    show(Lib.itoa (p.1:Int)).length≤4
    rw[ay2]
    have:=h p List.mem_cons_self
    exact aI6 _ 3 (by omega)
   have h3:(C8 (ae4 p.2)).length=2:=by cases p.2<;>rfl
   omega
  rw[List.flatMap_cons,ff4,ff8,ff8]
  omega
structure SaidAt (l:List ByteArray) (n:Int) (e:ByteArray) (ps:List (Nat × Bool)) (A2 W1 W2:List ByteArray) (z:ByteArray):Prop where
 a:At A2 l.length z
 s:C9 z=wOk::ps.map ap1
 zz:z.size≤1000
 w1:W1.length=l.length
 w2:W2.length=l.length+1
 rd:∀i,i<l.length→∃u,At W1 i u∧At W2 i (if(i:Int)=n then e else if at5 (l.map A8) (i:Int)=true then u else at0)
 lst:At W2 l.length at0
theorem eX9 {t:D5} {l:List ByteArray} {n:Int} {e:ByteArray} {ps:List (Nat × Bool)} (L:em7 t l n e ps) (v:F6 t=true) (hl:l.length≤11):
 ∃z,SaidAt l n e ps (Y1 t (l++[ch3 n e])) ((Y1 t (l++ak9 l.length)).drop l.length) ((Y1 t ((l++[ch3 n e])++ak9 (l.length+1))).drop (l.length+1)) z:=by
 have n1:(Y1 t (l++[ch3 n e])).length=l.length+1:=by rw[ap6 v (by simp;omega),(ax9 _ _).1];simp
 have n2:(Y1 t (l++ak9 l.length)).length=l.length+l.length:=by rw[ap6 v (by rw[ff4,av6];omega),(ax9 _ _).1,ff4,av6]
 have n3:(Y1 t ((l++[ch3 n e])++ak9 (l.length+1))).length=(l.length+1)+(l.length+1):=by
  rw[ap6 v (by rw[ff4,av6,ff4,ff7];omega),(ax9 _ _).1,ff4,av6,ff4,ff7]
 have hp:∀p∈ps,p.1≤9999:=fun p hp=>by
  obtain⟨k,hk⟩:=List.mem_iff_getElem?.1 hp
  have:=(L.ent k p hk).2.1
  omega
 refine⟨_,em8 (by omega) L.ans,L.split, ?_,by rw[List.length_drop];omega,by rw[List.length_drop];omega,fun i hi=>⟨_,dU4 (by omega) (L.was i hi), ?_⟩,dU4 (by omega) L.last⟩
 ·have h1:=ee0 ps hp
  have h2:=L.few
  show(C8 wOk++ps.flatMap fun p=>32::aL6 p).length≤1000
  rw[ff4]
  have h3:(C8 wOk).length=2:=rfl
  omega
 ·exact dU4 (by omega) (L.reads i hi)
end
section
open Go.RowKit
attribute [local go_sem] j4.drew j4.alloc j4.drewN WB.holds Oper.semAt_some Q9 O1 J7
theorem cr3 (lv:Value) (l:List ByteArray) (n:Int) (hnI:K8 n) (hsz:∀s∈l,s.size≤1100000) (H:j5) (w:World) (hw:j4 H w) (hl:Sl H lv l):
 Calls Tryz.prog 15 #[lv,.int .i64 n] w (I1 w (.bool (at5 (l.map A8) n))):=by
 obtain⟨al,cl,rfl,hl1,hl2⟩:=hl.form
 obtain⟨V,hV⟩:∃V,Hid (at5 (l.map A8) n=V):=⟨_,rfl⟩
 rw[hV.out]
 cases hwi:within n 0 ((l.length:Int)-1)
 ·have hv:V=false:=by
   rw[←hV.out]
   unfold at5
   unfold within at hwi
   simp at hwi ⊢
   intro h1 h2
   omega
  subst hv
  clear hV
  go_enter Tryz.func15,Tryz.ntmps15
  go_wp2_with(first|((go_at_call 26;refine(aD4 _ _ _ _).mono ?_;rintro e w5 ⟨rfl,rfl⟩;rw[hwi])))
  go_ret
  exact⟨rfl,Below.refl _ _⟩
 ·obtain⟨n0,n1⟩:0≤n∧n≤(l.length:Int)-1:=by unfold within at hwi;simpa using hwi
  obtain⟨N,rfl⟩:∃N:Nat,n=(N:Int):=⟨n.toNat,by omega⟩
  have hN:N<l.length:=by omega
  obtain⟨z,hz⟩:=At.mk hN
  have hk:=fun(W:World) (hW:j4 H W)=>aI0 z (hsz z hz.mem) H W hW
  have hv:V=decide ((A8 z).kind=1):=by
   rw[←hV.out]
   unfold at5
   rw[fh8,bM2 hN,ff3,show l[N]? =some z from hz,decide_eq_true (show(0:Int)≤(N:Int)by omega),decide_eq_true (show(N:Int)<((l.map A8).length:Int)by rw[fg5];omega)]
   rfl
  obtain⟨b1,o1,c1,hez,hszz,p1⟩:=hl.str hz
  cases hez
  have hN0:(0:Int)≤(N:Int):=by omega
  have hN1:(N:Int)<(l.length:Int):=by omega
  have hN2:(N:Int)≤(l.length:Int)-1:=by omega
  generalize(A8 z).kind=K at*
  replace hk:=fe6 hk
  replace hv:=fe6 hv
  clear hV hz n0 n1 hnI
  by_cases h1:K=1
  ·subst h1
   go_enter Tryz.func15,Tryz.ntmps15
   go_wp2_with(first|((go_at_call 26;refine(aD4 _ _ _ _).mono ?_;rintro e w5 ⟨rfl,rfl⟩;rw[hwi]))|((go_at_call 16;go_must (refine(hk.out _ hw).mono ?_);rintro e w4 ⟨rfl,hb4⟩)))
   go_ret
   exact⟨M0 (by rw[hv.out];rfl),hb4⟩
  ·go_enter Tryz.func15,Tryz.ntmps15
   go_wp2_with(first|((go_at_call 26;refine(aD4 _ _ _ _).mono ?_;rintro e w5 ⟨rfl,rfl⟩;rw[hwi]))|((go_at_call 16;go_must (refine(hk.out _ hw).mono ?_);rintro e w4 ⟨rfl,hb4⟩)))
   go_ret
   exact⟨M0 (by rw[hv.out];simp[h1]),hb4⟩
end
section
open Go.RowKit
attribute [local go_sem] j4.drew j4.alloc j4.drewN WB.holds Oper.semAt_some
def eA5 (xs ys:List ByteArray):Nat→List ByteArray
 |0=>[]
 |1=>xs
 |_=>xs++ys
theorem bG7 (va vb:Value) (xs ys:List ByteArray) (hx:xs.length≤2000000) (hy:ys.length≤2000000) (H:j5) (w:World) (hw:j4 H w) (h1:Sl H va xs) (h2:Sl H vb ys) (b:Nat)
 (d0:∀W,j4 H W→W.cell? ⟨b,0,none⟩=some va) (d1:∀W,j4 H W→W.cell? ⟨b,1,none⟩=some vb):
 Calls Tryz.prog 19 #[.slice (some ⟨b,0,none⟩) 2 2] w (Post w H fun u H'=>Sl H' u (xs++ys)):=by
 obtain⟨a1,c1,rfl,_,_⟩:=h1.form
 obtain⟨a2,c2,rfl,_,_⟩:=h2.form
 have aX9:Hid ((([]:List ByteArray).length+xs.length)*Enc.M4 ByteArray≤140737488355328):=by show _≤_;simp only[Enc.M4,fg1];omega
 have aH8:Hid (([]:List ByteArray).length+xs.length≤9223372036854775807):=by show _≤_;simp only[fg1];omega
 have eA6:Hid ((xs.length+ys.length)*Enc.M4 ByteArray≤140737488355328):=by show _≤_;simp only[Enc.M4];omega
 have eA7:Hid (xs.length+ys.length≤9223372036854775807):=by show _≤_;omega
 replace hx:=fe6 hx
 replace hy:=fe6 hy
 go_enter Tryz.func19,Tryz.ntmps19
 go_wp2_with fail
 go_loopw [3,4] (fun v i wr=>∃(k:Nat),k≤2∧i= .int .i64 (k:Int)∧Own H w.heap.size wr 9 v (eA5 xs ys k)∧Ext w H wr H) (fun v i _=>2-(intOf i).toNat)
 case atStart=>exact⟨0,by omega,rfl,Own.nil _ _ _ _,Ext.refl hw⟩
 case round=>
  obtain⟨k,hk,rfl,o,x⟩:=hrel
  have hwr:=x.holds
  match k,hk,o with
  |0,_,o=>
   replace o:Own H w.heap.size wr 9 _ ([]:List ByteArray):=o
   go_wp2_with(at_builtin;go_must (refine aj2 (w0:=w) (H0:=H) bi0 rfl _ _ rfl x rfl o rfl h1 aX9.out aH8.out ?_);intro v3 w3 o3 x3 hw3 g3;rw[ff9]at o3)
   go_roundw
   case rel=>exact⟨1,by omega,rfl,o3,x3⟩
   case measure=>simp[intOf]
  |1,_,o=>
   replace o:Own H w.heap.size wr 9 _ xs:=o
   go_wp2_with(at_builtin;go_must (refine aj2 (w0:=w) (H0:=H) bi0 rfl _ _ rfl x rfl o rfl h2 eA6.out eA7.out ?_);intro v3 w3 o3 x3 hw3 g3)
   go_roundw
   case rel=>exact⟨2,by omega,rfl,o3,x3⟩
   case measure=>simp[intOf]
  |2,_,o=>
   replace o:Own H w.heap.size wr 9 _ (xs++ys):=o
   obtain⟨H4,x5,l5,s5,_⟩:=o.close x
   go_wp2_with fail
   go_ret
   exact⟨_,H4,rfl,x5,s5⟩
end
section
open Go.RowKit
theorem cw6 {H:j5} {a:Option Addr} {xs:List ByteArray} {c N:Nat} (hN:N≤xs.length) (h:Sl H (.slice a xs.length c) xs):
 ∃a',(∀W,(Instr.sliceAt 33 (.slice a xs.length c) none (some (.int .i64 (N:Int))) none).run Tryz.prog W= .ok (.slice a' N c) W)∧Sl H (.slice a' N c) (xs.take N):=by
 obtain⟨a0,c0,e,hc,_⟩:=h.form
 cases e
 refine⟨a,fun W=> ?_,h.take hN⟩
 have h1:(0:Int)≤(N:Int):=by omega
 have h2:(N:Int)≤(c:Int):=by omega
 have h3:(if c=0 then a else a.map (·.add (0*1)))=a:=by
  split
  ·rfl
  ·cases a with
   |none=>rfl
   |some b=>simp[Addr.add]
 simp[Instr.sliceAt,Instr.slice,Instr.sliceBounds,Instr.sliceBound,go_sem,h1]
 intro hh
 omega
theorem cG2 {H:j5} {a:Option Addr} {xs:List ByteArray} {c N:Nat} (hN:N≤xs.length) (h:Sl H (.slice a xs.length c) xs):
 ∃a',(∀W,(Instr.sliceAt 33 (.slice a xs.length c) (some (.int .i64 (N:Int))) none none).run Tryz.prog W= .ok (.slice a' (xs.length-N) (c-N)) W)∧Sl H (.slice a' (xs.length-N) (c-N)) (xs.drop N):=by
 obtain⟨a0,c0,e,hc,_⟩:=h.form
 cases e
 have h1:(0:Int)≤(N:Int):=by omega
 have h2:(N:Int)≤(xs.length:Int):=by omega
 refine⟨if c=N then a else a.map (·.add (N*1)),fun W=> ?_, ?_⟩
 ·simp[Instr.sliceAt,Instr.slice,Instr.sliceBounds,Instr.sliceBound,go_sem,h1]
  intro hh
  omega
 ·by_cases hx:c=N∨xs=[]
  ·have hl:xs.drop N=[]:=by
    rcases hx with hx|hx
    ·exact List.drop_eq_nil_of_le (by omega)
    ·subst hx;simp
   have hl2:xs.length-N=0:=by
    rcases hx with hx|hx
    ·omega
    ·subst hx;simp
   rw[hl,hl2]
   exact Sl.nil H _ (by omega)
  ·rw[not_or]at hx
   rw[if_neg hx.1]
   obtain⟨a',c',e,_,_,_,h4⟩:=id h
   cases e
   rcases h4 with h4|⟨b',o',cur,e',fr,ha,_⟩
   ·exact absurd h4 hx.2
   ·subst ha
    have hd:=Sl.cL7 h hN
    have e:Option.map (fun x=>Addr.add x (N*1)) (some (⟨b',o',none⟩:Addr))=some ⟨b',o'+N,none⟩:=by
     by_cases h0:N=0<;>simp[Addr.add,h0]
    rw[e]
    simpa [show Enc.sz ByteArray=1 from rfl]using hd
def eh9 (H:j5) (C:Nat) (t:D5):Prop:=∃p0 q0 p1 q1 p2 q2 p3 q3 p4 q4 p5 q5,H C=some (.cells #[.slice p0 t.h.ms.length q0,.slice p1 t.h.bs.length q1,.slice p2 t.h.ts.length q2,.int .i64 t.h.ch,.slice p3 t.s.mo.length q3,.slice p4 t.s.wo.length q4,.slice p5 t.s.wa.length q5,.int .i64 t.s.fr] 32 (0,0))∧
 Twn H (.slice p0 t.h.ms.length q0) (.slice p1 t.h.bs.length q1) (.slice p2 t.h.ts.length q2) (.slice p3 t.s.mo.length q3) (.slice p4 t.s.wo.length q4) (.slice p5 t.s.wa.length q5) t
def dl0 (w0:World) (H0 Hs:j5) (A K:List ByteArray) (t:D5) (v1 v2 v3 v4:Value) (w:World):Prop:=∃pa qa pk qk C Hx,v1= .slice pa A.length qa∧v2= .pointer (some ⟨C,0,none⟩)∧v3= .slice pk K.length qk∧v4= .bool true∧
 Ext w0 H0 w Hx∧D8 Hs Hx∧Sl Hx (.slice pa A.length qa) A∧Sl Hx (.slice pk K.length qk) K∧eh9 Hx C t
theorem aP9 {w0 w:World} {H0 Hs H5:j5} {A K:List ByteArray} {T:D5} {pa pk p0 p1 p2 p3 p4 p5:Option Addr} {qa qk q0 q1 q2 q3 q4 q5 C:Nat} (x:Ext w0 H0 w H5)
 (hat:w.heap[C]? =some (.cells #[.slice p0 T.h.ms.length q0,.slice p1 T.h.bs.length q1,.slice p2 T.h.ts.length q2,.int .i64 T.h.ch,.slice p3 T.s.mo.length q3,.slice p4 T.s.wo.length q4,.slice p5 T.s.wa.length q5,.int .i64 T.s.fr] 32 (0,0))) (hob:w0.heap.size≤C) (hn:H5 C=none) (le:D8 Hs H5)
 (sA:Sl H5 (.slice pa A.length qa) A) (sK:Sl H5 (.slice pk K.length qk) K) (tw:Twn H5 (.slice p0 T.h.ms.length q0) (.slice p1 T.h.bs.length q1) (.slice p2 T.h.ts.length q2) (.slice p3 T.s.mo.length q3) (.slice p4 T.s.wo.length q4) (.slice p5 T.s.wa.length q5) T):
 dl0 w0 H0 Hs A K T (.slice pa A.length qa) (.pointer (some ⟨C,0,none⟩)) (.slice pk K.length qk) (.bool true) w:=
 have l:=j5.L9 hn _
 ⟨pa,qa,pk,qk,C,_,rfl,rfl,rfl,rfl,x.freeze hob hat,le.trans l,sA.mono l,sK.mono l,p0,q0,p1,q1,p2,q2,p3,q3,p4,q4,p5,q5,j5.G7 _ _ _,tw.mono l⟩
theorem bn8 {w0 w:World} {H0 H:j5} (hx:Ext w0 H0 w H) (a b:Value) (T:TypeId):
 ∃H2,D8 H H2∧Ext w0 H0 (w.alloc (.cells #[a,b] T)) H2∧(∀W,j4 H2 W→W.cell? ⟨w.heap.size,0,none⟩=some a)∧∀W,j4 H2 W→W.cell? ⟨w.heap.size,1,none⟩=some b:=by
 have hn:=hx.holds.D6 (fh0 w.heap.size)
 have hp:=j5.G7 H w.heap.size (.cells #[a,b] T (0,0))
 exact⟨_,j5.L9 hn _,(hx.alloc _).freeze hx.below.size (heap_alloc_new w _),fun W hW=>(D7 hp hW 0).trans rfl,fun W hW=>(D7 hp hW 1).trans rfl⟩
abbrev aC3 (w:World) (C:Nat) (a b c d e f g h:Value):World:=(((((((w.setCell ⟨C,0,none⟩ a).setCell ⟨C,1,none⟩ b).setCell ⟨C,2,none⟩ c).setCell ⟨C,3,none⟩ d).setCell ⟨C,4,none⟩ e).setCell ⟨C,5,none⟩ f).setCell ⟨C,6,none⟩ g).setCell ⟨C,7,none⟩ h
theorem bq9 {w0 w:World} {H0 H:j5} {C:Nat} (c:J4 w0 H0 C 32 w H Z8) (T:D5) (p0:Option Addr) (q0:Nat) (p1:Option Addr) (q1:Nat) (p2:Option Addr) (q2:Nat) (p3:Option Addr) (q3:Nat) (p4:Option Addr) (q4:Nat) (p5:Option Addr) (q5:Nat):
 w.cell? ⟨C,0,none⟩=some (.slice none 0 0)∧w.cell? ⟨C,1,none⟩=some (.slice none 0 0)∧w.cell? ⟨C,2,none⟩=some (.slice none 0 0)∧w.cell? ⟨C,3,none⟩=some (.int .i64 0)∧w.cell? ⟨C,4,none⟩=some (.slice none 0 0)∧w.cell? ⟨C,5,none⟩=some (.slice none 0 0)∧w.cell? ⟨C,6,none⟩=some (.slice none 0 0)∧w.cell? ⟨C,7,none⟩=some (.int .i64 0)∧(∀i,w.frozen? ⟨C,i,none⟩=false)∧M9 C 32 (aC3 w C (.slice p0 T.h.ms.length q0) (.slice p1 T.h.bs.length q1) (.slice p2 T.h.ts.length q2) (.int .i64 T.h.ch) (.slice p3 T.s.mo.length q3) (.slice p4 T.s.wo.length q4) (.slice p5 T.s.wa.length q5) (.int .i64 T.s.fr)) (.slice p0 T.h.ms.length q0) (.slice p1 T.h.bs.length q1) (.slice p2 T.h.ts.length q2) (.int .i64 T.h.ch) (.slice p3 T.s.mo.length q3) (.slice p4 T.s.wo.length q4) (.slice p5 T.s.wa.length q5) (.int .i64 T.s.fr)∧Ext w0 H0 (aC3 w C (.slice p0 T.h.ms.length q0) (.slice p1 T.h.bs.length q1) (.slice p2 T.h.ts.length q2) (.int .i64 T.h.ch) (.slice p3 T.s.mo.length q3) (.slice p4 T.s.wo.length q4) (.slice p5 T.s.wa.length q5) (.int .i64 T.s.fr)) H:=by
 have r:M9 C 32 w (.slice none 0 0) (.slice none 0 0) (.slice none 0 0) (.int .i64 0) (.slice none 0 0) (.slice none 0 0) (.slice none 0 0) (.int .i64 0):=⟨c.at_⟩
 obtain⟨e0,e1,e2,e3,e4,e5,e6,e7,ef⟩:=r.cells
 exact⟨e0,e1,e2,e3,e4,e5,e6,e7,ef,r.set _ _ _ _ _ _ _ _,Ext.aC3 c.x c.ob c.oH _ _ _ _ _ _ _ _⟩
theorem aW1 {H:j5} {u:Value} {T:D5} (h:bt6 H u T):∃p0 q0 p1 q1 p2 q2 p3 q3 p4 q4 p5 q5,u=ah0 (.slice p0 T.h.ms.length q0) (.slice p1 T.h.bs.length q1) (.slice p2 T.h.ts.length q2) (.slice p3 T.s.mo.length q3) (.slice p4 T.s.wo.length q4) (.slice p5 T.s.wa.length q5) T∧
 Twn H (.slice p0 T.h.ms.length q0) (.slice p1 T.h.bs.length q1) (.slice p2 T.h.ts.length q2) (.slice p3 T.s.mo.length q3) (.slice p4 T.s.wo.length q4) (.slice p5 T.s.wa.length q5) T:=by
 obtain⟨xm,xb,xt,xp,xq,xr,rfl,tw⟩:=h
 obtain⟨p0,q0,rfl,_,_⟩:=tw.h.m.form
 obtain⟨p1,q1,rfl,_,_⟩:=tw.h.b.form
 obtain⟨p2,q2,rfl,_,_⟩:=tw.h.t.form
 obtain⟨p3,q3,rfl,_,_⟩:=tw.s.m.form
 obtain⟨p4,q4,rfl,_,_⟩:=tw.s.o.form
 obtain⟨p5,q5,rfl,_,_⟩:=tw.s.a.form
 exact⟨p0,q0,p1,q1,p2,q2,p3,q3,p4,q4,p5,q5,rfl,tw⟩
end
section
open Go.RowKit
attribute [local go_sem] j4.drew j4.alloc j4.drewN WB.holds Oper.semAt_some
theorem cr0 {n:Int} (h0:0≤n) (h1:n≤9999999):(G6 n).size≤7:=by
 obtain⟨k,rfl⟩:=Int.eq_ofNat_of_zero_le h0
 show(Lib.itoa (k:Int)).length≤7
 rw[ay2];exact aI6 _ 6 (by omega)
theorem by8 (n:Int) (e:ByteArray) (he:e.size≤900) (h1:0≤n) (h2:n≤9999999) (w:World):
 Calls Tryz.prog 20 #[.int .i64 n,.string e] w (I1 w (.string (ch3 n e))):=by
 have ht:=fe6 (bL9 n (by omega) (by omega))
 have hz:(G6 n).size≤7:=cr0 h1 h2
 have hE:Hid ((⟨#[108,105,110,101,32]⟩:ByteArray)++G6 n++⟨#[32,105,115,32]⟩++e=ch3 n e):=dw9 n e
 generalize G6 n=T at*
 go_enter Tryz.func20,Tryz.ntmps20
 go_wp2_with(first|(go_at_call 41;refine(ht.out _).mono ?_;rintro e w4 ⟨rfl,hb4⟩))
 go_ret
 exact⟨by rw[←hE.out];rfl,hb4⟩
theorem dM6 {n:Int} {e:ByteArray} (h1:0≤n) (h2:n≤9999999) (he:e.size≤40):(ch3 n e).size≤56:=by
 rw[←dw9,ByteArray.size_append,ByteArray.size_append,ByteArray.size_append]
 have:=cr0 h1 h2
 show 5+_+4+_≤_
 omega
end
section
open Go.RowKit
attribute [local go_sem] j4.drew j4.alloc j4.drewN WB.holds Oper.semAt_some
theorem eq9 (k:Nat) (b:Bool):(C8 (ap1 (k,b))).length=(G6 (k:Int)).size+3∧(∀j x,At (C8 (ap1 (k,b))) j x→j<(G6 (k:Int)).size→x≠58)∧At (C8 (ap1 (k,b))) (G6 (k:Int)).size 58∧
 (ap1 (k,b)).extract 0 (G6 (k:Int)).size=G6 (k:Int)∧(ap1 (k,b)).extract (G6 (k:Int)).size (ap1 (k,b)).size=J8 (58::C8 (ae4 b)):=by
 have e:C8 (ap1 (k,b))=C8 (G6 (k:Int))++58::C8 (ae4 b):=rfl
 have hd:(C8 (G6 (k:Int))).length=(G6 (k:Int)).size:=be8 _
 have hx:∀a c,C8 ((ap1 (k,b)).extract a c)=((C8 (ap1 (k,b))).drop a).take (c-a):=fun a c=>by
  unfold C8;rw[ByteArray.data_extract,Array.toList_extract,List.extract_eq_take_drop]
 have hl:(C8 (ap1 (k,b))).length=(G6 (k:Int)).size+3:=by
  rw[e,ff4,hd]
  cases b<;>rfl
 refine⟨hl,fun j x hj hlt=> ?_, ?_, ?_, ?_⟩
 ·unfold At at hj
  rw[e,List.getElem?_append_left (by rw[hd];exact hlt)]at hj
  have hm:x∈Lib.itoa (k:Int):=List.mem_of_getElem? hj
  rw[ay2]at hm
  have:=ah8.1 (List.all_eq_true.1 (aU5 k) x hm)
  intro h
  rw[h]at this
  exact absurd this.2 (by decide)
 ·unfold At
  rw[e,List.getElem?_append_right (by rw[hd];exact fh0 _),hd,Nat.sub_self]
  rfl
 ·apply ah1
  rw[hx,e,ff6,Nat.sub_zero,List.take_append_of_le_length (by rw[hd];exact fh0 _),fg7 (by rw[hd];exact fh0 _)]
 ·apply ah1
  have hs:(ap1 (k,b)).size=(G6 (k:Int)).size+3:=by rw[←be8,hl]
  rw[hx,hs,e,List.drop_append_of_le_length (by rw[hd];exact fh0 _),List.drop_of_length_le (by rw[hd];exact fh0 _),ff9]
  cases b<;>rw[Nat.add_sub_cancel_left]<;>rfl
theorem er0 (k:Nat) (hk:k≤99) (b:Bool) (w:World):Calls Tryz.prog 29 #[.string (ap1 (k,b))] w (I1 w (.tuple #[.int .i64 (k:Int),.int .i64 (if b then 1 else-1)])):=by
 obtain⟨f0,f1,f2,f3,f4⟩:=eq9 k b
 have hsz:(ap1 (k,b)).size=(G6 (k:Int)).size+3:=by rw[←be8,f0]
 have cN:=fun(W:World)=>aK3 ((ap1 (k,b)).extract 0 (G6 (k:Int)).size) W
 rw[show aV7 ((ap1 (k,b)).extract 0 (G6 (k:Int)).size)=(k:Int)by rw[f3];unfold aV7;rw[db3 (by omega) (by omega)];rfl,
  show aq5 ((ap1 (k,b)).extract 0 (G6 (k:Int)).size)=true by rw[f3];unfold aq5;rw[db3 (by omega) (by omega)];rfl]at cN
 have hd4:(G6 (k:Int)).size≤4:=aC4 (by omega) (by omega)
 generalize ap1 (k,b)=S at*
 generalize(G6 (k:Int)).size=d at*
 rw[hsz]at f4
 have hd0:(0:Int)≤(d:Int):=by omega
 have hds:(d:Int)≤(S.size:Int):=by omega
 have hlt:d<S.size:=by omega
 have hSd:=byte_at f2 hlt
 have t1:b=true→((S.extract d (d+3)).toList==[58,111,107])=true:=fun h=>G8 (by rw[f4,h];rfl)
 have t2:b=false→((S.extract d (d+3)).toList==[58,111,107])=false:=fun h=>j6 (by rw[f4,h];decide)
 have t3:b=false→((S.extract d (d+3)).toList==[58,110,111])=true:=fun h=>G8 (by rw[f4,h];rfl)
 obtain⟨sg,hsg⟩:∃sg:Int,Hid ((if b then(1:Int)else-1)=sg):=⟨_,rfl⟩
 rw[hsg.out]
 replace cN:=fe6 cN
 replace f1:=fe6 f1
 replace f0:=fe6 f0
 clear f2 f3 f4
 go_enter Tryz.func29,Tryz.ntmps29
 go_wp2
 go_loopw [4] (fun i wr=>∃j:Nat,j≤d∧i= .int .i64 (j:Int)∧wr=w) (fun i _=>S.size-(intOf i).toNat)
 case atStart=>exact⟨0,fh3 _,rfl,rfl⟩
 case round=>
  obtain⟨j,hj,rfl,rfl⟩:=hrel
  have hj0:(0:Int)≤(j:Int):=by omega
  have hj1:(j:Int)<(S.size:Int):=by omega
  by_cases hjd:j<d
  ·obtain⟨x,hx⟩:=At.mk (show j<(C8 S).length by rw[f0.out];omega)
   have hjs:j<S.size:=by omega
   have hSj:=byte_at hx hjs
   have hn:=f1.out j x hx hjd
   have tn:((x.toNat:Int)==58)=false:=beq_eq_false_iff_ne.2 fun e=>hn (UInt8.toNat_inj.1 (by show x.toNat=58;omega))
   clear hn hx t1 t2 t3
   go_wp2
   go_roundw
   case rel=>exact⟨j+1,by omega,by go_num,by first|rfl|trivial⟩
   case measure=>simp[intOf];omega
  ·have hje:j=d:=by omega
   subst hje
   cases b
   ·have u2:=t2 rfl
    have u3:=t3 rfl
    clear t1 t2 t3
    go_wp2_with(first|(go_at_call 45;go_must (refine(cN.out _).mono ?_);rintro e w4 ⟨rfl,hb4⟩))
    go_ret2
    rw[←hsg.out]
    exact⟨by first|rfl|simp,hb4⟩
   ·have u1:=t1 rfl
    clear t1 t2 t3
    go_wp2_with(first|(go_at_call 45;go_must (refine(cN.out _).mono ?_);rintro e w4 ⟨rfl,hb4⟩))
    go_ret2
    rw[←hsg.out]
    exact⟨by first|rfl|simp,hb4⟩
end
section
open Go.RowKit
attribute [local go_sem] j4.drew j4.alloc j4.drewN WB.holds Oper.semAt_some Q9 O1 J7
theorem ei4 (n:Int):(⟨#[114,101,97,100,115,32]⟩:ByteArray)++G6 n=bq5 n:=by
 apply ah1
 rw[aa5]
 rfl
theorem ei5 {n:Int} (h0:0≤n) (h1:n≤99):(bq5 n).size≤10:=by
 rw[←ei4,ByteArray.size_append]
 have:=aC4 h0 (by omega:n≤9999)
 show 6+_≤_
 omega
theorem dd6 (vm vb vt um uo ua lv:Value) (t:D5) (l:List ByteArray) (v:F6 t=true) (hl12:l.length≤12) (hsz:∀s∈l,s.size≤900) (H:j5) (dr:Doors H) (w:World) (hw:j4 H w) (ht:Twn H vm vb vt um uo ua t) (hl:Sl H lv l):
 Calls Tryz.prog 27 #[ah0 vm vb vt um uo ua t,lv] w (Post w H fun u H'=>∃va,u= .tuple #[va,.bool true]∧Sl H' va ((Y1 t (l++ak9 l.length)).drop l.length)):=by
 obtain⟨al,cl,rfl,hl1,hl2⟩:=hl.form
 have hln:(l++ak9 l.length).length≤24:=by rw[ff4,av6];omega
 have cV:=fun(lv:Value) (H':j5) (W:World) (hW:j4 H' W) (hle:D8 H H') (h2:Sl H' lv (l++ak9 l.length))=>aD1 vm vb vt um uo ua lv t (l++ak9 l.length) v hln (fun s hs=>by
  rcases List.mem_append.1 hs with h|h
  ·exact hsz s h
  ·unfold ak9 at h
   obtain⟨i,hi,rfl⟩:=List.mem_map.1 h
   have:=List.mem_range.1 hi
   have:=ei5 (n:=(i:Int)) (by omega) (by omega)
   omega) H' (dr.mono hle) W hW (ht.mono hle) h2
 have cJ:=fun(vb:Value) (H':j5) (W:World) (hW:j4 H' W) (hle:D8 H H') (h2:Sl H' vb (ak9 l.length)) (b:Nat) (d0:∀W,j4 H' W→W.cell? ⟨b,0,none⟩=some (.slice al l.length cl)) (d1:∀W,j4 H' W→W.cell? ⟨b,1,none⟩=some vb)=>bG7 (.slice al l.length cl) vb l (ak9 l.length) (by omega) (by rw[av6];omega) H' W hW (hl.mono hle) h2 b d0 d1
 have hA:(Y1 t (l++ak9 l.length)).length=l.length+l.length:=by rw[ap6 v hln,(ax9 _ _).1,ff4,av6]
 have hAn:l.length≤(Y1 t (l++ak9 l.length)).length:=by omega
 generalize V5 t (l++ak9 l.length)=T at*
 generalize Y1 t (l++ak9 l.length)=A at*
 generalize O0 t (l++ak9 l.length)=K at*
 generalize l++ak9 l.length=L2 at*
 replace cV:=fe6 cV
 replace cJ:=fe6 cJ
 replace hA:=fe6 hA
 clear v hsz dr ht hln
 go_enter Tryz.func27,Tryz.ntmps27
 go_upto_region 1 with(refine af8 rfl _ rfl (Ext.refl hw) ?_;intro B w1 H1 hle hx hB hBw;obtain⟨hc0,hc1,hc2,hc3,hc4,O8,hc6,O9⟩:=I5 hB;clear hB hw;have hw1:=hx.holds)
 go_wp2_with fail
 go_loopw [6,7] (fun v6 i wr=>∃k:Nat,k≤l.length∧i= .int .i64 (k:Int)∧Ext w H wr H1∧Own H1 w.heap.size wr 9 v6 (ak9 k)) (fun _ i _=>l.length-(intOf i).toNat)
 case atStart=>exact⟨0,fh3 _,rfl,hx,Own.nil _ _ _ _⟩
 case round=>
  clear hx hw1
  obtain⟨k,hk,rfl,E5,ho⟩:=hrel
  have hwr:=E5.holds
  have hk0:(0:Int)≤(k:Int):=by omega
  obtain⟨av,cv,rfl,_,_⟩:=ho.form
  by_cases hlk:k<l.length
  ·have hk1:(k:Int)<(l.length:Int):=by omega
   have ht:=fe6 (bL9 (k:Int) (by omega) (by omega))
   have hE:=ei4 (k:Int)
   have hz:(bq5 (k:Int)).size≤140737488355328:=fh1 (ei5 (by omega) (by omega)) (by omega)
   have hml:(ak9 k).length≤1000:=by rw[av6];omega
   have hsn:=cJ0 k
   have hT4:(G6 (k:Int)).size≤4:=aC4 (by omega) (by omega)
   generalize G6 (k:Int)=XT at*
   generalize bq5 (k:Int)=R at*
   generalize ak9 k=acc at*
   replace hsn:=fe6 hsn
   replace hE:=fe6 hE
   have hbS:Hid ((acc.length+1)*Enc.M4 ByteArray≤140737488355328):=by show _*16≤_;omega
   have aH8:Hid (acc.length+1≤9223372036854775807):=by show _≤_;omega
   have hqS:¬9223372036854775807<6+XT.size:=by omega
   have hE2:=hE.out
   subst hE2
   clear hE
   go_wp2_with(first|((at_builtin;go_must (refine au7 (c:=1) (cs:=[Value.string ((⟨#[114,101,97,100,115,32]⟩:ByteArray)++XT)]) bi0 rfl _ _ rfl rfl o2 rfl ⟨rfl,hz⟩ x2.holds hbS.out aH8.out x2.below.size ?_);intro v3 w3 o3 g3 hw3 _;have x3:=(x2.alloc _).grown g3 (fun k hk=>(o2.lt k hk).1) (fun k hk=>o2.free k hk)))|((go_at_call 41;refine(ht.out _).mono ?_;rintro e w2 ⟨rfl,hb2⟩;have x2:=E5.step (hb2.mono E5.below.size) (hwr.below hb2);have o2:=ho.az2 hb2)))
   go_roundw
   case rel=>exact⟨k+1,hlk,by go_num,x3,by rw[hsn.out];exact o3⟩
   case measure=>simp[intOf];omega
  ·have hke:k=l.length:=by omega
   subst hke
   have hnk:¬(l.length:Int)<(l.length:Int):=by omega
   obtain⟨H3,x3,l3,sk,_⟩:=ho.close E5
   have hw3:=x3.holds
   replace hc0:=lift l3 hc0
   replace hc1:=lift l3 hc1
   replace hc2:=lift l3 hc2
   replace hc3:=lift l3 hc3
   replace hc4:=lift l3 hc4
   replace O8:=lift l3 O8
   replace hc6:=lift l3 hc6
   replace O9:=lift l3 O9
   replace hle:=hle.trans l3
   clear E5 hwr ho l3 hk
   go_upto_region 6 with fail
   go_cut [8,9,10,11] (fun v1 v2 v3 v4 wx=>dl0 w H H3 A K T v1 v2 v3 v4 wx)
   case first=>
    refine U1 (S:=(fun w'=>j4 H3 w')) 15 (by kernel_rfl) (by kernel_rfl) ?_ (fun N9=> ?_)
    ·(try dsimp only)
     (first|assumption|exact j4.drew ‹_›|exact j4.alloc ‹_› _)
    simp only[ff8,fg1,fh6,fh7,fg9,fg8,fg3,ff9,fg2]
    have xr0:=x3.drew
    have lr0:D8 H3 H3:=D8.refl _
    generalize World.drew wr=wr0 at*
    refine hdA 0 ?_
    refine hdA 1 ?_
    refine hdA 2 ?_
    (try simp only[Act.put,fe7,ff1,ff2])
    refine hdR 3 [11] (fun K hK=> ?_) ?_
    ·go_simp
     obtain⟨G1,lr,y,e0,e1⟩:=bn8 (Ext.refl xr0.holds) (.slice al (List.length l) cl) (.slice av (ak9 (List.length l)).length cv) 33
     generalize World.alloc wr0 (.cells #[.slice al (List.length l) cl,.slice av (ak9 (List.length l)).length cv] 33)=wr1 at*
     generalize(World.heap wr0).size=gr at*
     have xr1:=xr0.trans y
     have lr1:=lr0.trans (y.le xr0.holds)
     have kk:=xr1.holds.mono lr1
     clear y
     refine hK.out _ _ kk (fun I4=> ?_)
     clear hK K N9
     (try simp only[Act.put,fe7,ff1,ff2])
     refine hdR 4 [11] (fun K hK=> ?_) ?_
     ·go_simp
      go_at_call 19
      go_must (refine(cJ.out _ _ _ xr1.holds (hle.trans lr1) (sk.mono lr1) _ e0 e1).mono ?_)
      rintro e wr2 ⟨_,G2,rfl,y,sM⟩
      obtain⟨pM,qM,rfl,_,_⟩:=sM.form
      have xr2:=xr1.trans y
      have lr2:=lr1.trans (y.le xr1.holds)
      have kk:=xr2.holds.mono lr2
      clear y
      refine hK.out _ _ kk (fun F8=> ?_)
      clear hK K I4
      (try simp only[Act.put,fe7,ff1,ff2])
      refine hdR 5 [11] (fun K hK=> ?_) ?_
      ·go_simp
       go_at_call 23
       go_must (refine(cV.out _ _ _ xr2.holds (hle.trans lr2) sM).mono ?_)
       rintro e wr3 ⟨_,G3,rfl,y,va5,vt5,vk5,rfl,sA5,tv5,sK5⟩
       obtain⟨pA,qA,rfl,_,_⟩:=sA5.form
       obtain⟨pK,qK,rfl,_,_⟩:=sK5.form
       obtain⟨p0,q0,p1,q1,p2,q2,p3,q3,p4,q4,p5,q5,rfl,Q0⟩:=aW1 tv5
       have xr3:=xr2.trans y
       have lr3:=lr2.trans (y.le xr2.holds)
       have kk:=xr3.holds.mono lr3
       clear y
       refine hK.out _ _ kk (fun F9=> ?_)
       clear hK K F8
       refine hdA 6 ?_
       refine hdA 7 ?_
       refine hdA 8 ?_
       refine hdA 9 ?_
       refine hdA 10 ?_
       (try simp only[Act.put,fe7,ff1,ff2])
       refine hdR 11 [] (fun K hK=> ?_) r9.nil
       go_simp
       have ai3:=J4.new xr3 Z8 32
       have ay8:=ai3.x
       have kk:=ay8.holds.mono lr3
       generalize World.alloc wr3 (.cells Z8 32)=dx2 at*
       generalize(World.heap wr3).size=C at*
       refine hK.out _ _ kk (fun I7=> ?_)
       clear hK K F9
       refine hdA 12 ?_
       (try simp only[Act.put,fe7,ff1,ff2])
       refine hdR 13 [] (fun K hK=> ?_) r9.nil
       obtain⟨e0,e1,e2,e3,e4,e5,e6,e7,ef,rz,xz⟩:=bq9 ai3 T p0 q0 p1 q1 p2 q2 p3 q3 p4 q4 p5 q5
       go_simp
       refine hK.out _ _ (xz.holds.mono lr3) (fun aa1=> ?_)
       clear hK K I7
       refine hdA 14 ?_
       (try simp only[Act.put,fe7,ff1,ff2])
       refine G9 (by kernel_rfl) ?_
       simp only[ff5,ff6]
       go_wp2_with fail
       go_meet
       exact aP9 xz rz.at_ ai3.ob ai3.oH lr3 sA5 sK5 Q0
      refine r9.cons (by simp only[ff0,fe9,fe8]<;>rfl) (fun K hK=> ?_) ?_
      ·go_simp
       have ai4:=J4.new xr2 Z8 32
       have aL4:=ai4.x
       have kk:=aL4.holds.mono lr2
       generalize World.alloc wr2 (.cells Z8 32)=ed2 at*
       generalize(World.heap wr2).size=C at*
       refine hK.out _ _ kk (fun F9=> ?_)
       clear hK K F8
       (try simp only[Act.put,fe7,ff1,ff2])
       refine hdR 5 [] (fun K hK=> ?_) r9.nil
       go_simp
       go_at_call 23
       go_must (refine(cV.out _ _ _ aL4.holds (hle.trans lr2) sM).mono ?_)
       rintro e dx2 ⟨_,G3,rfl,y,va5,vt5,vk5,rfl,sA5,tv5,sK5⟩
       obtain⟨pA,qA,rfl,_,_⟩:=sA5.form
       obtain⟨pK,qK,rfl,_,_⟩:=sK5.form
       obtain⟨p0,q0,p1,q1,p2,q2,p3,q3,p4,q4,p5,q5,rfl,Q0⟩:=aW1 tv5
       have ay8:=aL4.trans y
       have ai3:=ai4.ext y
       have lr3:=lr2.trans (y.le aL4.holds)
       have kk:=ay8.holds.mono lr3
       clear y
       refine hK.out _ _ kk (fun I7=> ?_)
       clear hK K F9
       refine hdA 6 ?_
       refine hdA 7 ?_
       refine hdA 8 ?_
       refine hdA 9 ?_
       refine hdA 10 ?_
       (try simp only[Act.put,fe7,ff1,ff2])
       refine hdA 12 ?_
       (try simp only[Act.put,fe7,ff1,ff2])
       refine hdR 13 [] (fun K hK=> ?_) r9.nil
       obtain⟨e0,e1,e2,e3,e4,e5,e6,e7,ef,rz,xz⟩:=bq9 ai3 T p0 q0 p1 q1 p2 q2 p3 q3 p4 q4 p5 q5
       go_simp
       refine hK.out _ _ (xz.holds.mono lr3) (fun aa1=> ?_)
       clear hK K I7
       refine hdA 14 ?_
       (try simp only[Act.put,fe7,ff1,ff2])
       refine G9 (by kernel_rfl) ?_
       simp only[ff5,ff6]
       go_wp2_with fail
       go_meet
       exact aP9 xz rz.at_ ai3.ob ai3.oH lr3 sA5 sK5 Q0
      exact r9.nil
     refine r9.cons (by simp only[ff0,fe9,fe8]<;>rfl) (fun K hK=> ?_) ?_
     ·go_simp
      have ag4:=J4.new xr1 Z8 32
      have bo0:=ag4.x
      have kk:=bo0.holds.mono lr1
      generalize World.alloc wr1 (.cells Z8 32)=cx0 at*
      generalize(World.heap wr1).size=C at*
      refine hK.out _ _ kk (fun F8=> ?_)
      clear hK K I4
      (try simp only[Act.put,fe7,ff1,ff2])
      refine hdR 4 [] (fun K hK=> ?_) r9.nil
      go_simp
      go_at_call 19
      go_must (refine(cJ.out _ _ _ bo0.holds (hle.trans lr1) (sk.mono lr1) _ e0 e1).mono ?_)
      rintro e ed2 ⟨_,G2,rfl,y,sM⟩
      obtain⟨pM,qM,rfl,_,_⟩:=sM.form
      have aL4:=bo0.trans y
      have ai4:=ag4.ext y
      have lr2:=lr1.trans (y.le bo0.holds)
      have kk:=aL4.holds.mono lr2
      clear y
      refine hK.out _ _ kk (fun F9=> ?_)
      clear hK K F8
      (try simp only[Act.put,fe7,ff1,ff2])
      refine hdR 5 [] (fun K hK=> ?_) r9.nil
      go_simp
      go_at_call 23
      go_must (refine(cV.out _ _ _ aL4.holds (hle.trans lr2) sM).mono ?_)
      rintro e dx2 ⟨_,G3,rfl,y,va5,vt5,vk5,rfl,sA5,tv5,sK5⟩
      obtain⟨pA,qA,rfl,_,_⟩:=sA5.form
      obtain⟨pK,qK,rfl,_,_⟩:=sK5.form
      obtain⟨p0,q0,p1,q1,p2,q2,p3,q3,p4,q4,p5,q5,rfl,Q0⟩:=aW1 tv5
      have ay8:=aL4.trans y
      have ai3:=ai4.ext y
      have lr3:=lr2.trans (y.le aL4.holds)
      have kk:=ay8.holds.mono lr3
      clear y
      refine hK.out _ _ kk (fun I7=> ?_)
      clear hK K F9
      refine hdA 6 ?_
      refine hdA 7 ?_
      refine hdA 8 ?_
      refine hdA 9 ?_
      refine hdA 10 ?_
      (try simp only[Act.put,fe7,ff1,ff2])
      refine hdA 12 ?_
      (try simp only[Act.put,fe7,ff1,ff2])
      refine hdR 13 [] (fun K hK=> ?_) r9.nil
      obtain⟨e0,e1,e2,e3,e4,e5,e6,e7,ef,rz,xz⟩:=bq9 ai3 T p0 q0 p1 q1 p2 q2 p3 q3 p4 q4 p5 q5
      go_simp
      refine hK.out _ _ (xz.holds.mono lr3) (fun aa1=> ?_)
      clear hK K I7
      refine hdA 14 ?_
      (try simp only[Act.put,fe7,ff1,ff2])
      refine G9 (by kernel_rfl) ?_
      simp only[ff5,ff6]
      go_wp2_with fail
      go_meet
      exact aP9 xz rz.at_ ai3.ob ai3.oH lr3 sA5 sK5 Q0
     exact r9.nil
    refine r9.cons (by simp only[ff0,fe9,fe8]<;>rfl) (fun K hK=> ?_) ?_
    ·go_simp
     have ag5:=J4.new xr0 Z8 32
     have cW4:=ag5.x
     have kk:=cW4.holds.mono lr0
     generalize World.alloc wr0 (.cells Z8 32)=ed3 at*
     generalize(World.heap wr0).size=C at*
     refine hK.out _ _ kk (fun I4=> ?_)
     clear hK K N9
     (try simp only[Act.put,fe7,ff1,ff2])
     refine hdR 3 [] (fun K hK=> ?_) r9.nil
     go_simp
     obtain⟨G1,lr,y,e0,e1⟩:=bn8 (Ext.refl cW4.holds) (.slice al (List.length l) cl) (.slice av (ak9 (List.length l)).length cv) 33
     generalize World.alloc ed3 (.cells #[.slice al (List.length l) cl,.slice av (ak9 (List.length l)).length cv] 33)=cx0 at*
     generalize(World.heap ed3).size=gr at*
     have bo0:=cW4.trans y
     have ag4:=ag5.ext y
     have lr1:=lr0.trans (y.le cW4.holds)
     have kk:=bo0.holds.mono lr1
     clear y
     refine hK.out _ _ kk (fun F8=> ?_)
     clear hK K I4
     (try simp only[Act.put,fe7,ff1,ff2])
     refine hdR 4 [] (fun K hK=> ?_) r9.nil
     go_simp
     go_at_call 19
     go_must (refine(cJ.out _ _ _ bo0.holds (hle.trans lr1) (sk.mono lr1) _ e0 e1).mono ?_)
     rintro e ed2 ⟨_,G2,rfl,y,sM⟩
     obtain⟨pM,qM,rfl,_,_⟩:=sM.form
     have aL4:=bo0.trans y
     have ai4:=ag4.ext y
     have lr2:=lr1.trans (y.le bo0.holds)
     have kk:=aL4.holds.mono lr2
     clear y
     refine hK.out _ _ kk (fun F9=> ?_)
     clear hK K F8
     (try simp only[Act.put,fe7,ff1,ff2])
     refine hdR 5 [] (fun K hK=> ?_) r9.nil
     go_simp
     go_at_call 23
     go_must (refine(cV.out _ _ _ aL4.holds (hle.trans lr2) sM).mono ?_)
     rintro e dx2 ⟨_,G3,rfl,y,va5,vt5,vk5,rfl,sA5,tv5,sK5⟩
     obtain⟨pA,qA,rfl,_,_⟩:=sA5.form
     obtain⟨pK,qK,rfl,_,_⟩:=sK5.form
     obtain⟨p0,q0,p1,q1,p2,q2,p3,q3,p4,q4,p5,q5,rfl,Q0⟩:=aW1 tv5
     have ay8:=aL4.trans y
     have ai3:=ai4.ext y
     have lr3:=lr2.trans (y.le aL4.holds)
     have kk:=ay8.holds.mono lr3
     clear y
     refine hK.out _ _ kk (fun I7=> ?_)
     clear hK K F9
     refine hdA 6 ?_
     refine hdA 7 ?_
     refine hdA 8 ?_
     refine hdA 9 ?_
     refine hdA 10 ?_
     (try simp only[Act.put,fe7,ff1,ff2])
     refine hdA 12 ?_
     (try simp only[Act.put,fe7,ff1,ff2])
     refine hdR 13 [] (fun K hK=> ?_) r9.nil
     obtain⟨e0,e1,e2,e3,e4,e5,e6,e7,ef,rz,xz⟩:=bq9 ai3 T p0 q0 p1 q1 p2 q2 p3 q3 p4 q4 p5 q5
     go_simp
     refine hK.out _ _ (xz.holds.mono lr3) (fun aa1=> ?_)
     clear hK K I7
     refine hdA 14 ?_
     (try simp only[Act.put,fe7,ff1,ff2])
     refine G9 (by kernel_rfl) ?_
     simp only[ff5,ff6]
     go_wp2_with fail
     go_meet
     exact aP9 xz rz.at_ ai3.ob ai3.oH lr3 sA5 sK5 Q0
    exact r9.nil
   case rest=>
    obtain⟨pB,qB,pL,qL,E,H5,rfl,rfl,rfl,rfl,x5,l5,sB,sL,_⟩:=hcut
    obtain⟨aq,hrq,sq⟩:=cG2 hAn sB
    have hw5:=x5.holds
    clear sB sL sk x3 hw3 cV cJ hc0 hc1 hc2 hc3 hc4 O8 hc6 O9
    go_wp2_with fail
    go_ret2
    exact⟨_,H5,rfl,x5,_,rfl,sq⟩
end
section
open Go.RowKit
attribute [local go_sem] j4.drew j4.alloc j4.drewN WB.holds Oper.semAt_some Q9 O1 J7
theorem ek8 (vm vb vt um uo ua lv:Value) (t:D5) (l:List ByteArray) (a:ByteArray) (n:Int) (H:j5) (dr:Doors H) (w:World) (hw:j4 H w) (ht:Twn H vm vb vt um uo ua t) (hl:Sl H lv l) (hza:a.size≤140737488355328) (hnI:K8 n)
 (hll:l.length≤1100000) (hsz:∀s∈l,s.size≤1100000):
 Calls Tryz.prog 8 #[ah0 vm vb vt um uo ua t,lv,.agg #[.int .i64 n,.string a]] w (I1 w (.bool true)):=by
 clear hza
 have cW:=fun(H':j5) (W:World) (hW:j4 H' W) (hle:D8 H H')=>aO6 H' (dr.mono hle) W hW
 replace cW:=fe6 cW
 have cIa:=fun(m:Int) (hm:K8 m) (H':j5) (W:World) (hW:j4 H' W) (hle:D8 H H')=>cr3 lv l m hm hsz H' W hW (hl.mono hle)
 obtain⟨al,cl,rfl,hl1,hl2⟩:=hl.form
 have cI:=cIa n hnI
 replace ht:=fe6 ht
 replace dr:=fe6 dr
 replace hl:=fe6 hl
 replace hsz:=fe6 hsz
 replace cI:=fe6 cI
 replace cIa:=fe6 cIa
 go_enter Tryz.func8,Tryz.ntmps8
 go_upto_region 1 with(first|(have hgd:=hx;refine af8 rfl _ rfl hx ?_;intro C w2 H2 hle2 hx2 hC hCw;have g0:∀W,j4 H2 W→W.cell? ⟨C,0,none⟩=some (.int .i64 n):=fun W hW=>D7 hC hW 0;have g1:∀W,j4 H2 W→W.cell? ⟨C,1,none⟩=some (.string a):=fun W hW=>D7 hC hW 1;replace hc0:=lift hle2 hc0;replace hc1:=lift hle2 hc1;replace hc2:=lift hle2 hc2;replace hc3:=lift hle2 hc3;replace hc4:=lift hle2 hc4;replace O8:=lift hle2 O8;replace hc6:=lift hle2 hc6;replace O9:=lift hle2 O9;replace hle:=hle.trans hle2;clear hC hx hw1 hle2;have hw2:=hx2.holds)|(refine af8 rfl _ rfl (Ext.refl hw) ?_;intro B w1 H1 hle hx hB hBw;obtain⟨hc0,hc1,hc2,hc3,hc4,O8,hc6,O9⟩:=I5 hB;clear hB hw;have hw1:=hx.holds))
 replace cI:=cI.out
 by_cases hE:(11:Int)<(l.length:Int)∨(¬(11:Int)<(l.length:Int)∧((40:Int)<(a.size:Int)∨(¬(40:Int)<(a.size:Int)∧(at5 (l.map A8) n=false∨(at5 (l.map A8) n=true∧((A8 a).kind≠1∧a≠au8))))))
 ·have cK:=fun(hz:¬(40:Int)<(a.size:Int)) (H':j5) (W:World) (hW:j4 H' W)=>aI0 a (by omega) H' W hW
  have tN:=fun(h:a≠au8)=>show(a.toList==[110,111,116])=false from j6 h
  generalize(A8 a).kind=Ka at*
  generalize at5 (l.map A8) n=bI at*
  rcases hE with z11|⟨z11,za|⟨za,hI|⟨hI,ka,nb⟩⟩⟩
  all_goals
   (try subst hI)
   (try replace tN:=tN nb)
   replace cK:=fe6 cK
   replace cI:=fe6 cI
   clear ht dr hsz hll
   go_wp2_with(first|((have hgd:=hw2;clear hgd;go_at_call 15;go_must (refine(cI.out _ _ hw2 hle).mono ?_);rintro e w4 ⟨rfl,hb4⟩;have x4:=hx2.step (hb4.mono hx2.below.size) (hw2.below hb4);have hw4:=x4.holds;clear hw2))|((have hgd:=hw4;clear hgd;go_at_call 16;go_must (refine(cK.out za _ _ hw4).mono ?_);rintro e w5 ⟨rfl,hb5⟩;have x5:=x4.step (hb5.mono x4.below.size) (hw4.below hb5);have hw5:=x5.holds;clear hw4))|((go_at_call 18;first|(refine(cW.out _ _ x5.holds hle).mono ?_;rintro e wz ⟨rfl,hbz⟩;have xz:=x5.step (hbz.mono x5.below.size) (x5.holds.below hbz))|(refine(cW.out _ _ x4.holds hle).mono ?_;rintro e wz ⟨rfl,hbz⟩;have xz:=x4.step (hbz.mono x4.below.size) (x4.holds.below hbz))|(refine(cW.out _ _ hx2.holds hle).mono ?_;rintro e wz ⟨rfl,hbz⟩;have xz:=hx2.step (hbz.mono hx2.below.size) (hx2.holds.below hbz)))))
   go_ret
   exact⟨rfl,xz.below⟩
 have z11:¬(11:Int)<(l.length:Int):=fun h=>hE (.inl h)
 have za:¬(40:Int)<(a.size:Int):=fun h=>hE (.inr ⟨z11,.inl h⟩)
 have hI:at5 (l.map A8) n=true:=by
  cases h:at5 (l.map A8) n
  ·exact absurd (.inr ⟨z11,.inr ⟨za,.inl h⟩⟩) hE
  ·rfl
 have he:(A8 a).kind=1∨a=au8:=Decidable.byContradiction fun h=>hE (.inr ⟨z11,.inr ⟨za,.inr ⟨hI,fun h1=>h (.inl h1),fun h2=>h (.inr h2)⟩⟩⟩)
 clear hE
 have cK:=fun(H':j5) (W:World) (hW:j4 H' W)=>aI0 a (by omega) H' W hW
 rw[hI]at cI
 obtain⟨n0,n1,nk⟩:=ce3.1 hI
 rw[fg5]at n1
 obtain⟨N,rfl⟩:∃N:Nat,n=(N:Int):=⟨n.toNat,by omega⟩
 have hNl:N<l.length:=by omega
 have tB:Hid ((A8 a).kind=1∨(A8 a).kind≠1∧(a.toList==[110,111,116])=true):=fe6 (by
  by_cases h:(A8 a).kind=1
  ·exact .inl h
  ·exact .inr ⟨h,G8 (he.resolve_left h)⟩)
 have cL:=by8 (N:Int) a (by omega) n0 (by omega)
 have z56:(ch3 (N:Int) a).size≤56:=dM6 n0 (by omega) (by omega)
 obtain⟨S1,hS1⟩:∃S,Hid (ch3 (N:Int) a=S):=⟨_,rfl⟩
 rw[hS1.out]at cL z56
 have de3:∀x∈[S1],x.size≤1000000:=fun x hx=>by rw[List.mem_singleton.1 hx];omega
 have cJ:=fun(vb:Value) (H':j5) (W:World) (hW:j4 H' W) (hle:D8 H H') (h2:Sl H' vb [S1]) (b:Nat) (d0:∀W,j4 H' W→W.cell? ⟨b,0,none⟩=some (.slice al l.length cl)) (d1:∀W,j4 H' W→W.cell? ⟨b,1,none⟩=some vb)=>bG7 (.slice al l.length cl) vb l [S1] (by omega) (by simp) H' W hW (hl.out.mono hle) h2 b d0 d1
 obtain⟨LA,hLA⟩:∃LA,Hid (l++[S1]=LA):=⟨_,rfl⟩
 rw[hLA.out]at cJ
 have cY:=fun(lv:Value) (H':j5) (W:World) (hW:j4 H' W) (hle:D8 H H') (h2:Sl H' lv LA)=>aA3 vm vb vt um uo ua lv t LA H' W hW (ht.out.mono hle) h2
 replace hI:=fe6 hI
 replace he:=fe6 he
 replace cK:=fe6 cK
 replace cI:=fe6 cI
 replace cL:=fe6 cL
 replace cJ:=fe6 cJ
 replace cY:=fe6 cY
 replace de3:=fe6 de3
 replace z56:=fe6 z56
 replace nk:=fe6 nk
 generalize hKa:(A8 a).kind=Ka at*
 replace hKa:=fe6 hKa
 go_cut [54] (fun v wx=>v= .bool false∧Ext w H wx H2)
 case first=>
  rcases tB.out with tb|⟨kb,tb⟩
  ·subst tb
   go_wp2_with(first|(have hgd:=hw2;clear hgd;go_at_call 15;go_must (refine(cI.out _ _ hw2 hle).mono ?_);rintro e w4 ⟨rfl,hb4⟩;have x4:=hx2.step (hb4.mono hx2.below.size) (hw2.below hb4);have hw4:=x4.holds;clear hw2)|(have hgd:=hw4;clear hgd;go_at_call 16;go_must (refine(cK.out _ _ hw4).mono ?_);rintro e w5 ⟨rfl,hb5⟩;have x5:=x4.step (hb5.mono x4.below.size) (hw4.below hb5);have hw5:=x5.holds;clear hw4))
   go_meet
   exact⟨rfl,x5⟩
  ·go_wp2_with(first|(have hgd:=hw2;clear hgd;go_at_call 15;go_must (refine(cI.out _ _ hw2 hle).mono ?_);rintro e w4 ⟨rfl,hb4⟩;have x4:=hx2.step (hb4.mono hx2.below.size) (hw2.below hb4);have hw4:=x4.holds;clear hw2)|(have hgd:=hw4;clear hgd;go_at_call 16;go_must (refine(cK.out _ _ hw4).mono ?_);rintro e w5 ⟨rfl,hb5⟩;have x5:=x4.step (hb5.mono x4.below.size) (hw4.below hb5);have hw5:=x5.holds;clear hw4))
   go_meet
   exact⟨rfl,x5⟩
 case rest=>
  obtain⟨rfl,x6⟩:=hcut
  have hw6:=x6.holds
  clear hx2 hw2 cI cK tB
  go_upto_region 4 with(first|(go_at_call 20;go_must (refine(cL.out _).mono ?_);rintro e wla ⟨rfl,dE2⟩;have xla:=x6.step (dE2.mono x6.below.size) (hw6.below dE2))|(go_at_call 19;obtain⟨HA,lA,xA,sO⟩:=aN5 xla [S1] de3.out (by simp);obtain⟨HB,lB,xB,e0,e1⟩:=bn8 xA (.slice al (List.length l) cl) (.slice (some ⟨wla.heap.size,0,none⟩) 1 1) 33;rw[World.size_alloc]at e0 e1;go_must (refine(cJ.out _ _ _ xB.holds (hle.trans (lA.trans lB)) (sO.mono lB) _ e0 e1).mono ?_);rintro e w7 ⟨_,H7,rfl,yJ,sJ⟩;obtain⟨pJ,qJ,rfl,_,_⟩:=sJ.form;have x7:=xB.trans yJ;have l7:=(lA.trans lB).trans (yJ.le xB.holds)))
  have hw7:=x7.holds
  replace hc0:=lift l7 hc0
  replace hc1:=lift l7 hc1
  replace hc2:=lift l7 hc2
  replace hc3:=lift l7 hc3
  replace hc4:=lift l7 hc4
  replace O8:=lift l7 O8
  replace hc6:=lift l7 hc6
  replace O9:=lift l7 O9
  replace g0:=lift l7 g0
  replace g1:=lift l7 g1
  replace hle:=hle.trans l7
  clear x6 hw6 xA xB yJ lA lB e0 e1 sO xla dE2 cL cJ l7 de3
  cases hr2:aF8 t LA
  ·rw[hr2]at cY
   replace cY:=fe6 cY.out
   clear hr2
   go_wp2_with(first|((go_at_call 17;go_must (refine(cY.out _ _ _ hw7 hle sJ).mono ?_);rintro e w8 ⟨rfl,hb8⟩;have x8:=x7.step (hb8.mono x7.below.size) (hw7.below hb8);have hw8:=x8.holds))|((go_at_call 18;(refine(cW.out _ _ x8.holds hle).mono ?_;rintro e wz ⟨rfl,hbz⟩;have xz:=x8.step (hbz.mono x8.below.size) (x8.holds.below hbz)))))
   go_ret
   exact⟨rfl,xz.below⟩
  rw[hr2]at cY
  replace cY:=fe6 cY.out
  rw[←hLA.out]at hr2
  have R:=aL3.1 hr2
  rw[←hS1.out]at R hLA
  clear hr2
  have hs9:∀s∈l,s.size≤900:=fun s hs=>by have:=R.z s (List.mem_append.2 (.inl hs));omega
  have hA9:∀s∈LA,s.size≤900:=fun s hs=>by rw[←hLA.out]at hs;have:=R.z s hs;omega
  have hLl:LA.length=l.length+1:=by rw[←hLA.out,ff4,ff7]
  obtain⟨ps,L⟩:=eJ6 (l:=l) (n:=(N:Int)) (e:=a) R.v (by omega) hI.out (by have h:=he.out;rw[←hKa.out]at h;exact h)
  obtain⟨z,Z⟩:=eX9 L R.v (by omega)
  have hent:=L.ent
  have eC7:=L.few
  have hlen:=L.len
  rw[hLA.out]at Z hlen
  clear L
  have cU:=fun(H':j5) (W:World) (hW:j4 H' W) (hle:D8 H H')=>aD1 vm vb vt um uo ua (.slice al l.length cl) t l R.v (by omega) hs9 H' (dr.out.mono hle) W hW (ht.out.mono hle) (hl.out.mono hle)
  have cV:=fun(lv:Value) (H':j5) (W:World) (hW:j4 H' W) (hle:D8 H H') (h2:Sl H' lv LA)=>aD1 vm vb vt um uo ua lv t LA R.v (by omega) hA9 H' (dr.out.mono hle) W hW (ht.out.mono hle) h2
  have aj0:=fun(H':j5) (W:World) (hW:j4 H' W) (hle:D8 H H')=>dd6 vm vb vt um uo ua (.slice al l.length cl) t l R.v (by omega) hs9 H' (dr.out.mono hle) W hW (ht.out.mono hle) (hl.out.mono hle)
  have aj1:=fun(lv:Value) (H':j5) (W:World) (hW:j4 H' W) (hle:D8 H H') (h2:Sl H' lv LA)=>dd6 vm vb vt um uo ua lv t LA R.v (by omega) hA9 H' (dr.out.mono hle) W hW (ht.out.mono hle) h2
  rw[hLl]at aj1
  have cS:=fun(H':j5) (W:World) (hW:j4 H' W)=>aF7 z (by have:=Z.zz;omega) H' W hW
  rw[Z.s]at cS
  obtain⟨ZA,ZS,ZZ,Zw1,Zw2,Zrd,eJ7⟩:=Z
  have hP0:At (wOk::ps.map ap1) 0 wOk:=rfl
  have hPk:∀k p,At ps k p→At (wOk::ps.map ap1) (k+1) (ap1 p):=fun k p h=>by
   unfold At at*
   rw[fe9,List.getElem?_map,h];rfl
  have hPl:(wOk::ps.map ap1).length=ps.length+1:=by simp
  have hbk1:(O0 t l).length≤24:=by have:=(do6 (l:=l) R.v (by omega)).2.1;omega
  have hbk2:(O0 t LA).length≤24:=by have:=(do6 (l:=LA) R.v (by omega)).2.1;omega
  have hAl:(Y1 t LA).length=l.length+1:=by rw[ap6 R.v (by omega),(ax9 _ _).1,hLl]
  clear ZS ZZ R
  generalize(Y1 t (l++ak9 l.length)).drop l.length=W1 at*
  generalize(Y1 t (LA++ak9 (l.length+1))).drop (l.length+1)=W2 at*
  generalize wOk::ps.map ap1=P at*
  generalize Y1 t l=A1 at*
  generalize Y1 t LA=A2 at*
  generalize V5 t l=T1 at*
  generalize V5 t LA=T2 at*
  generalize O0 t l=K1 at*
  generalize O0 t LA=K2 at*
  replace cU:=fe6 cU
  replace cV:=fe6 cV
  replace aj0:=fe6 aj0
  replace aj1:=fe6 aj1
  replace cS:=fe6 cS
  replace hent:=fe6 hent
  replace hlen:=fe6 hlen
  replace hPk:=fe6 hPk
  replace Zrd:=fe6 Zrd
  replace eC7:=fe6 eC7
  replace hLl:=fe6 hLl
  replace hAl:=fe6 hAl
  replace Zw1:=fe6 Zw1
  replace Zw2:=fe6 Zw2
  replace hPl:=fe6 hPl
  replace ZA:=fe6 ZA
  replace eJ7:=fe6 eJ7
  replace hP0:=fe6 hP0
  have mk1:Hid True:=fe6 trivial
  clear hs9 hA9 hS1 hLA he z56 hll hsz hKa
  go_upto_region 7 with(first|(go_at_call 17;go_must (refine(cY.out _ _ _ hw7 hle sJ).mono ?_);rintro e w8 ⟨rfl,hb8⟩;have x8:=x7.step (hb8.mono x7.below.size) (hw7.below hb8);have hw8:=x8.holds)|(go_at_call 23;go_must (refine(cU.out _ _ hw8 hle).mono ?_);rintro e w9 ⟨_,H9,rfl,y9,va,vt',vk,rfl,sA1,⟨xm,xb,xt,xp,xq,xr,rfl,tw9⟩,sK1⟩;obtain⟨pA9,qA9,rfl,_,_⟩:=sA1.form;obtain⟨pK9,qK9,rfl,_,_⟩:=sK1.form;obtain⟨p0,pq0,rfl,_,_⟩:=tw9.h.m.form;obtain⟨p1,pq1,rfl,_,_⟩:=tw9.h.b.form;obtain⟨p2,pq2,rfl,_,_⟩:=tw9.h.t.form;obtain⟨p3,pq3,rfl,_,_⟩:=tw9.s.m.form;obtain⟨p4,pq4,rfl,_,_⟩:=tw9.s.o.form;obtain⟨p5,pq5,rfl,_,_⟩:=tw9.s.a.form;have x9:=x8.trans y9))
  have hn_:H9 (World.heap w9).size=none:=(x9).holds.D6 (fh0 _)
  have x10:=((x9).alloc (.cells #[.slice p0 T1.h.ms.length pq0,.slice p1 T1.h.bs.length pq1,.slice p2 T1.h.ts.length pq2,.int .i64 T1.h.ch,.slice p3 T1.s.mo.length pq3,.slice p4 T1.s.wo.length pq4,.slice p5 T1.s.wa.length pq5,.int .i64 T1.s.fr] 32)).freeze (x9).below.size (heap_alloc_new w9 _)
  have l10:=j5.L9 hn_ (.cells #[.slice p0 T1.h.ms.length pq0,.slice p1 T1.h.bs.length pq1,.slice p2 T1.h.ts.length pq2,.int .i64 T1.h.ch,.slice p3 T1.s.mo.length pq3,.slice p4 T1.s.wo.length pq4,.slice p5 T1.s.wa.length pq5,.int .i64 T1.s.fr] 32 (0,0))
  have fq1:=j5.G7 H9 (World.heap w9).size (.cells #[.slice p0 T1.h.ms.length pq0,.slice p1 T1.h.bs.length pq1,.slice p2 T1.h.ts.length pq2,.int .i64 T1.h.ch,.slice p3 T1.s.mo.length pq3,.slice p4 T1.s.wo.length pq4,.slice p5 T1.s.wa.length pq5,.int .i64 T1.s.fr] 32 (0,0))
  clear hn_
  generalize j5.put H9 (World.heap w9).size (.cells #[.slice p0 T1.h.ms.length pq0,.slice p1 T1.h.bs.length pq1,.slice p2 T1.h.ts.length pq2,.int .i64 T1.h.ch,.slice p3 T1.s.mo.length pq3,.slice p4 T1.s.wo.length pq4,.slice p5 T1.s.wa.length pq5,.int .i64 T1.s.fr] 32 (0,0))=H10 at*
  generalize World.alloc w9 (.cells #[.slice p0 T1.h.ms.length pq0,.slice p1 T1.h.bs.length pq1,.slice p2 T1.h.ts.length pq2,.int .i64 T1.h.ch,.slice p3 T1.s.mo.length pq3,.slice p4 T1.s.wo.length pq4,.slice p5 T1.s.wa.length pq5,.int .i64 T1.s.fr] 32)=w10 at*
  generalize(World.heap w9).size=D at*
  have bx4:D8 H7 H10:=(y9.le hw8).trans l10
  replace hle:=hle.trans bx4
  replace sJ:=sJ.mono bx4
  replace sK1:=sK1.mono l10
  replace hc0:=lift bx4 hc0
  replace hc1:=lift bx4 hc1
  replace hc2:=lift bx4 hc2
  replace hc3:=lift bx4 hc3
  replace hc4:=lift bx4 hc4
  replace O8:=lift bx4 O8
  replace hc6:=lift bx4 hc6
  replace O9:=lift bx4 O9
  replace g0:=lift bx4 g0
  replace g1:=lift bx4 g1
  have dW3:=x10.holds
  clear x9 y9 tw9 sA1 fq1 l10 x7 hw7 x8 hw8 hb8 cY cU bx4
  go_upto_region 8 with(go_at_call 23;go_must (refine(cV.out _ _ _ dW3 hle sJ).mono ?_);rintro e w11 ⟨_,H11,rfl,y11,va,vt',vk,rfl,sA2,⟨xm,xb,xt,xp,xq,xr,rfl,bz0⟩,sK2⟩;obtain⟨fN9,fO0,rfl,_,_⟩:=sA2.form;obtain⟨fO1,fO2,rfl,_,_⟩:=sK2.form;obtain⟨r0,rq0,rfl,_,_⟩:=bz0.h.m.form;obtain⟨r1,rq1,rfl,_,_⟩:=bz0.h.b.form;obtain⟨r2,rq2,rfl,_,_⟩:=bz0.h.t.form;obtain⟨r3,rq3,rfl,_,_⟩:=bz0.s.m.form;obtain⟨r4,rq4,rfl,_,_⟩:=bz0.s.o.form;obtain⟨r5,rq5,rfl,_,_⟩:=bz0.s.a.form;have x11:=x10.trans y11)
  have hn_:H11 (World.heap w11).size=none:=(x11).holds.D6 (fh0 _)
  have x12:=((x11).alloc (.cells #[.slice r0 T2.h.ms.length rq0,.slice r1 T2.h.bs.length rq1,.slice r2 T2.h.ts.length rq2,.int .i64 T2.h.ch,.slice r3 T2.s.mo.length rq3,.slice r4 T2.s.wo.length rq4,.slice r5 T2.s.wa.length rq5,.int .i64 T2.s.fr] 32)).freeze (x11).below.size (heap_alloc_new w11 _)
  have l12:=j5.L9 hn_ (.cells #[.slice r0 T2.h.ms.length rq0,.slice r1 T2.h.bs.length rq1,.slice r2 T2.h.ts.length rq2,.int .i64 T2.h.ch,.slice r3 T2.s.mo.length rq3,.slice r4 T2.s.wo.length rq4,.slice r5 T2.s.wa.length rq5,.int .i64 T2.s.fr] 32 (0,0))
  have dF0:=j5.G7 H11 (World.heap w11).size (.cells #[.slice r0 T2.h.ms.length rq0,.slice r1 T2.h.bs.length rq1,.slice r2 T2.h.ts.length rq2,.int .i64 T2.h.ch,.slice r3 T2.s.mo.length rq3,.slice r4 T2.s.wo.length rq4,.slice r5 T2.s.wa.length rq5,.int .i64 T2.s.fr] 32 (0,0))
  clear hn_
  generalize j5.put H11 (World.heap w11).size (.cells #[.slice r0 T2.h.ms.length rq0,.slice r1 T2.h.bs.length rq1,.slice r2 T2.h.ts.length rq2,.int .i64 T2.h.ch,.slice r3 T2.s.mo.length rq3,.slice r4 T2.s.wo.length rq4,.slice r5 T2.s.wa.length rq5,.int .i64 T2.s.fr] 32 (0,0))=H12 at*
  generalize World.alloc w11 (.cells #[.slice r0 T2.h.ms.length rq0,.slice r1 T2.h.bs.length rq1,.slice r2 T2.h.ts.length rq2,.int .i64 T2.h.ch,.slice r3 T2.s.mo.length rq3,.slice r4 T2.s.wo.length rq4,.slice r5 T2.s.wa.length rq5,.int .i64 T2.s.fr] 32)=w12 at*
  generalize(World.heap w11).size=E at*
  have aP8:D8 H10 H12:=(y11.le dW3).trans l12
  replace hle:=hle.trans aP8
  replace sJ:=sJ.mono aP8
  replace sK1:=sK1.mono aP8
  replace sA2:=sA2.mono l12
  replace sK2:=sK2.mono l12
  replace hc0:=lift aP8 hc0
  replace hc1:=lift aP8 hc1
  replace hc2:=lift aP8 hc2
  replace hc3:=lift aP8 hc3
  replace hc4:=lift aP8 hc4
  replace O8:=lift aP8 O8
  replace hc6:=lift aP8 hc6
  replace O9:=lift aP8 O9
  replace g0:=lift aP8 g0
  replace g1:=lift aP8 g1
  have cV9:=x12.holds
  clear x11 y11 bz0 dF0 l12 x10 dW3 cV aP8
  go_upto_region 9 with(go_at_call 27;go_must (refine(aj0.out _ _ cV9 hle).mono ?_);rintro e w13 ⟨_,H13,rfl,y13,vW1,rfl,sW1⟩;obtain⟨pW1,qW1,rfl,_,_⟩:=sW1.form;have x13:=x12.trans y13;have l13:=y13.le cV9;have fp5:=x13.holds)
  have x14:=x13
  have eJ8:=fp5
  have l14:=l13
  replace hle:=hle.trans l13
  replace hc0:=lift l13 hc0
  replace hc1:=lift l13 hc1
  replace hc2:=lift l13 hc2
  replace hc3:=lift l13 hc3
  replace hc4:=lift l13 hc4
  replace O8:=lift l13 O8
  replace hc6:=lift l13 hc6
  replace O9:=lift l13 O9
  replace g0:=lift l13 g0
  replace g1:=lift l13 g1
  clear x13 fp5 x12 cV9 aj0 y13
  go_upto_region 10 with(go_at_call 27;go_must (refine(aj1.out _ _ _ eJ8 hle (sJ.mono l14)).mono ?_);rintro e w15 ⟨_,H15,rfl,y15,vW2,rfl,sW2⟩;obtain⟨pW2,qW2,rfl,_,_⟩:=sW2.form;have x15:=x14.trans y15;have l15:=y15.le eJ8;have eA4:=x15.holds)
  replace hle:=hle.trans l15
  have aG8:=l14.trans l15
  replace sW1:=sW1.mono l15
  replace sA2:=sA2.mono aG8
  replace sK1:=sK1.mono aG8
  replace sK2:=sK2.mono aG8
  replace hc0:=lift l15 hc0
  replace hc1:=lift l15 hc1
  replace hc2:=lift l15 hc2
  replace hc3:=lift l15 hc3
  replace hc4:=lift l15 hc4
  replace O8:=lift l15 O8
  replace hc6:=lift l15 hc6
  replace O9:=lift l15 O9
  replace g0:=lift l15 g0
  replace g1:=lift l15 g1
  obtain⟨bz,oz,cz,hez,hszz,pz⟩:=sA2.str ZA.out
  cases hez
  have hi1:(l.length:Int)<(A2.length:Int):=by have:=hAl.out;omega
  have hi0:(0:Int)≤(l.length:Int):=by omega
  have u1:((W2.length:Int)==(LA.length:Int))=true:=beq_iff_eq.2 (by have:=Zw2.out;have:=hLl.out;omega)
  have v1:(W2.length:Int)=(LA.length:Int):=by have:=Zw2.out;have:=hLl.out;omega
  have v2:(W1.length:Int)=(l.length:Int):=by have:=Zw1.out;omega
  have u2:((W1.length:Int)==(l.length:Int))=true:=beq_iff_eq.2 (by have:=Zw1.out;omega)
  obtain⟨bq,oq,cq,heq,_,pq⟩:∃b o c,True∧True∧∀w,j4 H15 w→True:=⟨0,0,0,trivial,trivial,fun _ _=>trivial⟩
  clear heq pq bq oq cq
  go_upto_region 13 with(go_at_call 28;go_must (refine(cS.out _ _ eA4).mono ?_);rintro e w16 ⟨vP,H16,rfl,y16,oP⟩;obtain⟨H17,y17,_,sP,_⟩:=oP.close y16;obtain⟨pP,qP,rfl,_,_⟩:=sP.form;have x17:=x15.trans y17;have l17:=y17.le eA4;have fz0:=x17.holds)
  replace hle:=hle.trans l17
  replace sW1:=sW1.mono l17
  replace sW2:=sW2.mono l17
  replace hc0:=lift l17 hc0
  replace hc1:=lift l17 hc1
  replace hc2:=lift l17 hc2
  replace hc3:=lift l17 hc3
  replace hc4:=lift l17 hc4
  replace O8:=lift l17 O8
  replace hc6:=lift l17 hc6
  replace O9:=lift l17 O9
  replace g0:=lift l17 g0
  replace g1:=lift l17 g1
  obtain⟨b0,o0,c0,hez,_,p0'⟩:=sP.str hP0.out
  cases hez
  simp only[fh2]at p0'
  have hOk:=G8 (a:=wOk) (l:=[111,107]) rfl
  have hP1:(0:Int)<(P.length:Int):=by have:=hPl.out;omega
  clear x14 eJ8 x15 eA4 y15 y16 y17 oP aj1 cS sJ pz hszz u1 u2 v1 v2 ZA hP0 l14 aG8 l15 l13
  go_wp2_with fail
  go_loopw [21,22,23] (fun m la i wr=>∃(j:Nat) (mo lo:Int),1≤j∧j≤P.length∧i= .int .i64 (j:Int)∧m= .int .i64 mo∧la= .int .i64 lo∧Hid (mo=aB4 (ps.take (j-1))∧lo=ei6 ps (j-1))∧Ext w H wr H17) (fun _ _ i _=>P.length-(intOf i).toNat)
  case atStart=>exact⟨1,0,-1,fh0 _,by have:=hPl.out;omega,rfl,rfl,rfl,fe6 ⟨rfl,rfl⟩,x17⟩
  case round=>
   clear x17 fz0
   obtain⟨j,mo,lo,hj1,hjP,rfl,rfl,rfl,hml,E5⟩:=hrel
   have hwr:=E5.holds
   have hj0:(0:Int)≤(j:Int):=by omega
   by_cases hlj:j<P.length
   ·obtain⟨k,hk⟩:∃k,Hid (j=k+1):=⟨j-1,fe6 (show j=j-1+1 by omega)⟩
    have hkp:k<ps.length:=by have:=hPl.out;have:=hk.out;omega
    obtain⟨p,hp⟩:=At.mk hkp
    have hu:=hPk.out k p hp
    rw[←hk.out]at hu
    obtain⟨b9,o9,c9,hez,_,p9⟩:=sP.str hu
    cases hez
    obtain⟨q1,q2,q3⟩:=hent.out k p hp
    have hj2:(j:Int)<(P.length:Int):=by omega
    have cD:=fun(W:World)=>show Calls Tryz.prog 29 #[.string (ap1 p)] W (I1 W (.tuple #[.int .i64 (p.1:Int),.int .i64 (if p.2 then 1 else-1)]))from er0 p.1 (by omega) p.2 W
    have cI9:=fun(W:World) (hW:j4 H17 W)=>cIa.out (p.1:Int) ⟨by omega,by omega⟩ H17 W hW hle
    rw[q3]at cI9
    obtain⟨sg,hsg⟩:∃sg:Int,Hid ((if p.2 then(1:Int)else-1)=sg):=⟨_,rfl⟩
    rw[hsg.out]at cD
    have hbd:=dF8 (ps.take k)
    have hl9:(ps.take k).length≤11:=by rw[fg6];have:=eC7.out;omega
    have hs1:sg=1∨sg= -1:=by
     have h:=hsg.out
     cases hb:p.2<;>rw[hb]at h<;>simp at h<;>omega
    obtain⟨hm,hlo⟩:=hml.out
    have hjk:j-1=k:=by have:=hk.out;omega
    rw[hjk]at hm hlo
    have hmo: -11≤mo∧mo≤11:=by omega
    have t0:(sg==0)=false:=beq_eq_false_iff_ne.2 (by omega)
    have tl:¬(p.1:Int)≤lo:=by omega
    have g4:wrap64 (mo+sg)=mo+sg:=wrap64_in _ (by omega) (by omega)
    have hnx:Hid (mo+sg=aB4 (ps.take (j+1-1))∧(p.1:Int)=ei6 ps (j+1-1)):=fe6 (by
     rw[Nat.add_sub_cancel,hk.out]
     constructor
     ·rw[hp.take,ea5,←hm,←hsg.out]
      show _=mo+((if p.2 then 1 else-1)+0)
      omega
     ·show _=((ps.getD k (0,false)).1:Int)
      rw[ff3,show ps[k]? =some p from hp]
      rfl)
    generalize ap1 p=u at*
    generalize(p.1:Nat)=pn at*
    replace cD:=fe6 cD
    replace cI9:=fe6 cI9
    clear hm hlo hml hbd hl9 hs1 q1 q2 q3 hu hp hsg hjk hk hkp
    go_wp2_with(first|((go_at_call 29;go_must (refine(cD.out _).mono ?_);rintro e w9 ⟨rfl,hb9⟩;have x9:=E5.step (hb9.mono E5.below.size) (hwr.below hb9);have hw9:=x9.holds))|((go_at_call 15;go_must (refine(cI9.out _ hw9).mono ?_);rintro e w20 ⟨rfl,dB1⟩;have x20:=x9.step (dB1.mono x9.below.size) (hw9.below dB1))))
    go_roundw
    case rel=>exact⟨j+1,mo+sg,(pn:Int),by omega,by omega,by go_num,by first|rfl|rw[g4],rfl,hnx,x20⟩
    case measure=>simp[intOf];omega
   ·have hje:j=P.length:=by omega
    subst hje
    have hnk:¬(P.length:Int)<(P.length:Int):=by omega
    have hm:=hml.out.1
    rw[show P.length-1=ps.length by have:=hPl.out;omega,List.take_length]at hm
    have hbd:=dF8 ps
    have hf:=eC7.out
    have v3:(K2.length:Int)=(K1.length:Int)+mo:=by have:=hlen.out;omega
    have u3:((K2.length:Int)==(K1.length:Int)+mo)=true:=beq_iff_eq.2 v3
    have g5:wrap64 ((K1.length:Int)+mo)=(K1.length:Int)+mo:=wrap64_in _ (by omega) (by omega)
    clear hm hbd hf hml hj1 hjP hlj hj0
    go_wp2_with fail
    go_loopw [26] (fun i wr=>∃k:Nat,k≤l.length∧i= .int .i64 (k:Int)∧Ext w H wr H17) (fun i _=>l.length-(intOf i).toNat)
    case atStart=>exact⟨0,fh3 _,rfl,E5⟩
    case round=>
     clear E5 hwr v3 u3 g5
     obtain⟨k,hk,rfl,E5⟩:=hrel
     have hwr:=E5.holds
     have hk0:(0:Int)≤(k:Int):=by omega
     by_cases hlk:k<l.length
     ·obtain⟨u,hu1,hu2⟩:=Zrd.out k hlk
      obtain⟨b1,o1,c1,hez,_,p1⟩:=sW1.str hu1
      cases hez
      obtain⟨b2,o2,c2,hez,_,p2⟩:=sW2.str hu2
      cases hez
      have hk1:(k:Int)<(W1.length:Int):=by have:=Zw1.out;omega
      have hk2:(k:Int)<(W2.length:Int):=by have:=Zw2.out;omega
      have hk3:(k:Int)<(l.length:Int):=by omega
      clear hu1 hu2
      by_cases hkN:k=N
      ·subst hkN
       rw[if_pos rfl]at p2
       have tk:((k:Int)==(k:Int))=true:=beq_self_eq_true _
       go_wp2_with fail
       go_roundw
       case rel=>exact⟨k+1,by omega,by go_num,E5⟩
       case measure=>simp[intOf];omega
      ·have fq0:¬(k:Int)=(N:Int):=by omega
       have tk:((k:Int)==(N:Int))=false:=beq_eq_false_iff_ne.2 fq0
       rw[if_neg fq0]at p2
       have cI9:=fun(W:World) (hW:j4 H17 W)=>cIa.out (k:Int) ⟨by omega,by omega⟩ H17 W hW hle
       cases hb:at5 (l.map A8) (k:Int)
       ·rw[hb]at cI9 p2
        rw[if_neg (by decide)]at p2
        replace cI9:=fe6 cI9
        have hWr:=G8 (a:=at0) (l:=[119,114,111,110,103]) rfl
        clear hb hkN
        go_wp2_with(first|((go_at_call 15;go_must (refine(cI9.out _ hwr).mono ?_);rintro e w20 ⟨rfl,dB1⟩;have x20:=E5.step (dB1.mono E5.below.size) (hwr.below dB1);have fz1:=x20.holds)))
        go_roundw
        case rel=>exact⟨k+1,by omega,by go_num,x20⟩
        case measure=>simp[intOf];omega
       ·rw[hb]at cI9 p2
        rw[if_pos rfl]at p2
        replace cI9:=fe6 cI9
        clear hb hkN
        go_wp2_with(first|((go_at_call 15;go_must (refine(cI9.out _ hwr).mono ?_);rintro e w20 ⟨rfl,dB1⟩;have x20:=E5.step (dB1.mono E5.below.size) (hwr.below dB1);have fz1:=x20.holds)))
        go_roundw
        case rel=>exact⟨k+1,by omega,by go_num,x20⟩
        case measure=>simp[intOf];omega
     ·have hke:k=l.length:=by omega
      subst hke
      have hnl:¬(l.length:Int)<(l.length:Int):=by omega
      obtain⟨b2,o2,c2,hez,_,p2⟩:=sW2.str eJ7.out
      cases hez
      have hk2:(l.length:Int)<(W2.length:Int):=by have:=Zw2.out;omega
      have hWr:=G8 (a:=at0) (l:=[119,114,111,110,103]) rfl
      go_wp2_with(first|((go_at_call 18;(refine(cW.out _ _ E5.holds hle).mono ?_;rintro e wz ⟨rfl,hbz⟩;have xz:=E5.step (hbz.mono E5.below.size) (E5.holds.below hbz)))))
      go_ret
      exact⟨rfl,xz.below⟩
end
end Go.Proofs.YtbliehinagkldaaGreatDoor
