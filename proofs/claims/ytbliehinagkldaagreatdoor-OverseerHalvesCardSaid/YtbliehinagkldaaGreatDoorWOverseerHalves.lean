/- Lemmas and the walk of the law OverseerHalves (names and blanks made short by a program). -/
import Derived.Test.YtbliehinagkldaaGreatDoorG19
set_option linter.all false
set_option maxRecDepth 100000
set_option maxHeartbeats 16000000
open Go.Lib renaming hid → fe6
open List renaming setIfInBounds_toArray → fe7, getElem?_cons_zero → fe8, getElem?_cons_succ → fe9, getElem?_toArray → ff0, set_cons_zero → ff1, set_cons_succ → ff2, length_append → ff4, drop_succ_cons → ff5, drop_zero → ff6, length_cons → ff8, nil_append → ff9, length_nil → fg1, cons_append → fg2, push_toArray → fg3, length_map → fg5, length_take → fg6
open Array renaming replicate_zero → fg8, replicate_succ → fg9
open Nat renaming le_refl → fh0, le_trans → fh1, reduceAdd → fh6, reduceSub → fh7
namespace Go.Proofs.YtbliehinagkldaaGreatDoor
section
open Go.RowKit
theorem Sl.take {α:Type} [Enc α] {H:j5} {a:Option Addr} {n c:Nat} {xs:List α} (h:Sl H (.slice a n c) xs) {k:Nat} (hk:k≤xs.length):Sl H (.slice a k c) (xs.take k):=by
 obtain⟨a',c',e,h1,h2,h3,h4⟩:=h
 cases e
 have hlen:(xs.take k).length=k:=by simp;omega
 refine⟨a,c,by rw[hlen],by omega,h2,fh1 (Nat.mul_le_mul_right _ (by omega)) h3, ?_⟩
 rcases h4 with h4|⟨b,o,cur,e,fr,rfl,hb,ho,hr⟩
 ·subst h4;simp
 ·refine .inr ⟨b,o,cur,e,fr,rfl,hb, ?_, ?_⟩
  ·rw[hlen];exact fh1 (Nat.add_le_add_left (Nat.mul_le_mul_right _ hk) o) ho
  ·rw[hlen]
   have e1:xs=xs.take k++xs.drop k:=(List.take_append_drop k xs).symm
   rw[e1]at hr
   obtain⟨c1,c2,e2,hr1,_⟩:=hr.split
   have hl1:=hr1.len
   rw[hlen]at hl1
   have:(cur.toList.drop o).take (k*Enc.sz α)=c1:=by
    have h5:=congrArg (List.take (k*Enc.sz α)) e2
    rw[←hl1,List.take_left,hl1,List.take_take,Nat.min_eq_left (by rw[←e1];exact Nat.mul_le_mul_right _ hk)]at h5
    exact h5
   rw[this];exact hr1
end
section
theorem ck7 (t:D5) (l:List F7) (x:F7):O3 t (l++[x])=O3 t l++[(M8 (Z5 t l) x).2]:=by
 induction l generalizing t with
 |nil=>rfl
 |cons y l ih=>show _::O3 _ (l++[x])=_;rw[ih];rfl
end
section
open Go.RowKit Go.ChangeShapes Go.WideShapes Go.Deep
theorem aJ9 (w:World):j4 (ad6 w) w:=⟨fun _ _ e=>e⟩
end
section
theorem cG9 (t:D5) (l m:List F7):Z5 t (l++m)=Z5 (Z5 t l) m:=by
 induction l generalizing t with
 |nil=>rfl
 |cons x l ih=>exact ih _
theorem df9 (t:D5) (l m:List F7):aZ9 t (l++m)=aZ9 t l++aZ9 (Z5 t l) m:=by
 induction l generalizing t with
 |nil=>rfl
 |cons x l ih=>show _++aZ9 _ (l++m)=_;rw[ih,←List.append_assoc];rfl
theorem dH0 {t:D5} {x:F7} (h:(M8 t x).2=false):(M8 t x).1=t:=by
 unfold M8 at*
 split at h
 ·rename_i hk
  rw[if_pos hk]
  unfold changed at*
  cases ho:M5 t x.word x.nums with
  |none=>rfl
  |some o=>
   rw[ho]at h
   simp only at h ⊢
   split at h
   ·cases h
   ·rename_i hv;rw[if_neg hv]
 ·rename_i hk;rw[if_neg hk]
theorem cz4:∀(s:List UInt8),∀w∈R9 s,∀b∈w,b≠32:=ad1 (fun w hw b hb=>by
 have:w=[]:=by simpa [R9]using hw
 rw[this]at hb;cases hb) fun s c ih w hw b hb=>by
 rw[ap3]at hw
 unfold U7 at hw
 split at hw
 ·rcases List.mem_append.1 hw with h|h
  ·exact ih w h b hb
  ·have:w=[]:=by simpa using h
   rw[this]at hb;cases hb
 ·rename_i hc
  rcases List.mem_append.1 hw with h|h
  ·exact ih w (List.dropLast_subset _ h) b hb
  ·have e:w=(R9 s).getLastD []++[c]:=by simpa using h
   rw[e]at hb
   rcases List.mem_append.1 hb with h2|h2
   ·have hne:=aB3 s
    rw[List.getLastD_eq_getLast?,List.getLast?_eq_some_getLast hne]at h2
    exact ih _ (List.getLast_mem hne) b h2
   ·have:b=c:=by simpa using h2
    rw[this];exact hc
theorem bL1 (s:ByteArray):∀w∈C9 s,∀b∈C8 w,b≠32:=fun w hw b hb=>by
 obtain⟨x,hx,rfl⟩:=List.mem_map.1 hw
 exact cz4 (C8 s) x hx b hb
theorem bD7:∀l:List (List UInt8),l≠[]→(∀w∈l,∀b∈w,b≠32)→R9 (joinL l)=l
 |[],h,_=>absurd rfl h
 |[a],_,h=>aF1 (h a (by simp))
 |a::b::l,_,h=>by
  show R9 (a++32::joinL (b::l))=_
  rw[bi7,aF1 (h a (by simp)),bD7 (b::l) (by simp) fun w hw=>h w (List.mem_cons_of_mem _ hw)]
  rfl
theorem cM6 {l:List ByteArray} (hne:l≠[]) (h:∀w∈l,∀b∈C8 w,b≠32):C9 (J9 l)=l:=by
 rw[aU7]
 unfold C9
 rw[show C8 (J8 (joinL (l.map C8)))=joinL (l.map C8)from rfl,bD7 _ (by simpa using hne) fun w hw b hb=>by
  obtain⟨x,hx,rfl⟩:=List.mem_map.1 hw
  exact h x hx b hb]
 rw[List.map_map,show(J8 ∘ C8)=id from funext fun _=>rfl,List.map_id]
theorem db1 {p:List ByteArray} (hne:p≠[]) (h:∀w∈p,∀b∈C8 w,b≠32) (hk:(A7 p).kind≠0):A8 (J9 p)=A7 p:=by
 unfold A8
 rw[cM6 hne h,bd8 hk]
end
section
theorem db4 {l:List F7} {x:F7} (hk:x.kind≠1) (he:(x.kind=5∨x.kind=6)→at5 l x.of=false):aa4 (l++[x])=aa4 l++[E9]:=by
 rw[aD5]
 unfold ak4
 rw[if_neg hk,if_neg]
 rintro⟨h1,h2⟩
 rw[he h1]at h2;cases h2
theorem dH2 {l:List F7} {x:F7} (hk:x.kind=1):aa4 (l++[x])=aa4 l++[x]:=by
 rw[aD5]
 unfold ak4
 rw[if_pos hk]
def cm6 (x:F7):F7:=if x.kind=1 then x else E9
theorem aI7:∀l:List F7,(∀x∈l,x.kind≠5∧x.kind≠6)→aa4 l=l.map cm6:=ad1 (fun _=>rfl) fun l x ih h=>by
 have hx:=h x (by simp)
 rw[List.map_append,List.map_singleton,←ih fun y hy=>h y (by simp[hy])]
 by_cases hk:x.kind=1
 ·rw[dH2 hk];unfold cm6;rw[if_pos hk]
 ·rw[db4 hk (by omega)];unfold cm6;rw[if_neg hk]
theorem bj0 {x:F7} (h:x.kind=1):cm6 x=x:=by unfold cm6;rw[if_pos h]
end
section
def ch4 (x:F7):Prop:=x.kind=1→A8 x.text=x
theorem db5:ch4 E9:=fun h=>by cases h
theorem db6 (s:ByteArray):ch4 (A8 s):=fun h=>by rw[(ca2 (.inl h)).1]
theorem do2 (s:ByteArray):ch4 (av1 (A8 s)):=by
 by_cases h:(A8 s).kind=5
 ·obtain⟨a,b,c,e,h1,h2,h3,h4⟩:=ca3 h
  intro _
  rw[h4,(av0 (p:=e) (by omega)).1,db1 h2 (fun w hw=>bL1 s w (by rw[h1];simp[hw])) (by omega)]
 ·rw[bU3 h];exact db5
theorem do3 (l:List ByteArray):∀x∈aa4 (l.map A8),ch4 x:=cF5 db5 (fun x hx _=>by
 obtain⟨s,_,rfl⟩:=List.mem_map.1 hx;exact db6 s) fun x hx=>by
 obtain⟨s,_,rfl⟩:=List.mem_map.1 hx;exact do2 s
def ai8 (t:D5):List F7→List F7
 |[]=>[]
 |x::l=>(if(M8 t x).2 then [x]else [])++ai8 (M8 t x).1 l
theorem bL2 (t:D5) (l:List F7):aZ9 t l=(ai8 t l).map (·.text):=by
 induction l generalizing t with
 |nil=>rfl
 |cons x l ih=>
  unfold aZ9 ai8
  rw[ih,List.map_append]
  split<;>rfl
theorem cf6 {t:D5} {x:F7} (h:(M8 t x).2=true):x.kind=1:=by
 unfold M8 at h
 split at h
 ·assumption
 ·cases h
theorem do4 (t:D5) (l:List F7):∀x∈ai8 t l,x∈l∧x.kind=1:=by
 induction l generalizing t with
 |nil=>intro x hx;cases hx
 |cons y l ih=>
  intro x hx
  unfold ai8 at hx
  rcases List.mem_append.1 hx with hx|hx
  ·split at hx
   ·rename_i hy
    have:x=y:=by simpa using hx
    subst this
    exact⟨by simp,cf6 hy⟩
   ·cases hx
  ·have:=ih _ x hx
   exact⟨by simp[this.1],this.2⟩
theorem cm7 (t:D5) (l:List F7):(ai8 t l).Sublist l:=by
 induction l generalizing t with
 |nil=>exact List.Sublist.slnil
 |cons x l ih=>
  unfold ai8
  split
  ·exact(ih _).cons_cons x
  ·exact(ih _).cons x
theorem cM9 (t:D5) (l:List F7):Z5 t (ai8 t l)=Z5 t l∧ai8 t (ai8 t l)=ai8 t l∧O3 t (ai8 t l)=List.replicate (ai8 t l).length true:=by
 induction l generalizing t with
 |nil=>exact⟨rfl,rfl,rfl⟩
 |cons x l ih=>
  cases h:(M8 t x).2 with
  |true=>
   obtain⟨a,b,c⟩:=ih (M8 t x).1
   have e:ai8 t (x::l)=x::ai8 (M8 t x).1 l:=by
    show(if(M8 t x).2=true then [x]else [])++_=_
    rw[h];rfl
   rw[e]
   refine⟨a, ?_, ?_⟩
   ·show(if(M8 t x).2=true then [x]else [])++ai8 _ (ai8 _ l)=_
    rw[h,b];rfl
   ·show(M8 t x).2::O3 _ (ai8 _ l)=_
    rw[h,c,ff8,List.replicate_succ]
  |false=>
   have e1:=dH0 h
   have e:ai8 t (x::l)=ai8 t l:=by
    show(if(M8 t x).2=true then [x]else [])++ai8 (M8 t x).1 l=_
    rw[h,e1];rfl
   rw[e]
   have:=ih t
   refine⟨?_,this.2⟩
   show _=Z5 (M8 t x).1 l
   rw[e1];exact this.1
theorem bD8 (t:D5):∀l:List ByteArray,(∀s∈l,(A8 s).kind=1)→(M6 t l).ans=(O3 t (l.map A8)).map ae4:=ad1 (fun _=>rfl) fun l s ih h=>by
 have hl:=fun x (hx:x∈l)=>h x (by simp[hx])
 have hs:=h s (by simp)
 have hn:aa4 (l.map A8)=l.map A8:=by
  rw[aI7 _ fun x hx=>by
   obtain⟨y,hy,rfl⟩:=List.mem_map.1 hx
   have:=hl y hy;omega]
  rw[List.map_map]
  exact List.map_congr_left fun y hy=>bj0 (hl y hy)
 rw[bj1,ih hl,hn,List.map_append,List.map_singleton,ck7,List.map_append,List.map_singleton]
 unfold ap9 M8
 rw[if_neg (by omega),if_pos hs,if_pos hs]
theorem bo7 {p:F7→Bool}:∀(l:List F7) (k:Nat) (y:F7),(l.set k y).countP p≤l.countP p+(if p y then 1 else 0)
 |[],k,y=>by simp
 |x::l,0,y=>by
  rw[ff1,List.countP_cons,List.countP_cons];omega
 |x::l,k+1,y=>by
  have:=bo7 (p:=p) l k y
  rw[ff2,List.countP_cons,List.countP_cons];omega
theorem bU4:aT0 E9=false:=by decide
theorem cN0 (x:F7):(if aT0 (av1 x)then 1 else 0)≤(if aT0 x then 1 else 0):=by
 by_cases h:x.kind=5
 ·rw[db7 h];exact fh0 _
 ·rw[bU3 h,bU4];simp
theorem dH4:∀l:List F7,(aa4 l).countP aT0≤l.countP aT0:=ad1 (fh0 _) fun l x ih=>by
 have hx:=cN0 x
 rw[aD5,List.countP_append,List.countP_singleton]
 unfold ak4
 split
 ·rw[List.countP_append,List.countP_singleton];omega
 ·split
  ·rw[List.countP_append,List.countP_singleton,bo6,bU4]
   have:=bo7 (p:=aT0) (aa4 l) x.of.toNat (av1 x)
   simp only[Bool.false_eq_true,if_false]
   omega
  ·rw[List.countP_append,List.countP_singleton,bU4]
   simp only[Bool.false_eq_true,if_false]
   omega
theorem do6 {t:D5} {l:List ByteArray} (v:F6 t=true) (hl:l.length≤24):
 (∀s∈O0 t l,(A8 s).kind=1)∧(O0 t l).length≤l.length∧Y1 t (O0 t l)=List.replicate (O0 t l).length wOk∧V5 t (O0 t l)=V5 t l∧O0 t (O0 t l)=O0 t l∧
  (∀n,(∀s∈l,s.size≤n)→∀s∈O0 t l,s.size≤n)∧aK1 (O0 t l)≤aK1 l:=by
 have hk:O0 t l=(ai8 t (aa4 (l.map A8))).map (·.text):=by rw[aS9 v hl,bL2]
 have hg:=do3 l
 have hm:=do4 t (aa4 (l.map A8))
 have hr:(O0 t l).map A8=ai8 t (aa4 (l.map A8)):=by
  rw[hk,List.map_map]
  refine(List.map_congr_left (g:=id) fun x hx=> ?_).trans (List.map_id _)
  exact hg x (hm x hx).1 (hm x hx).2
 have h1:∀s∈O0 t l,(A8 s).kind=1:=fun s hs=>by
  rw[hk]at hs
  obtain⟨x,hx,rfl⟩:=List.mem_map.1 hs
  rw[hg x (hm x hx).1 (hm x hx).2]
  exact(hm x hx).2
 have h2:(O0 t l).length≤l.length:=by
  rw[hk,fg5]
  have:=(cm7 t (aa4 (l.map A8))).length_le
  rw[bt8,fg5]at this
  exact this
 have hn:aa4 ((O0 t l).map A8)=ai8 t (aa4 (l.map A8)):=by
  rw[hr,aI7 _ fun x hx=>by have:=(hm x hx).2;omega]
  exact(List.map_congr_left (g:=id) fun x hx=>bj0 (hm x hx).2).trans (List.map_id _)
 obtain⟨a,b,c⟩:=cM9 t (aa4 (l.map A8))
 refine⟨h1,h2, ?_, ?_, ?_, ?_, ?_⟩
 ·rw[ap6 v (by omega),bD8 t _ h1,hr,c,List.map_replicate,←hr,fg5]
  rfl
 ·rw[aK0 v (by omega),aK0 v hl,hn,a]
 ·rw[aS9 v (l:=O0 t l) (by omega),hn,bL2,b,←hk]
 ·intro n hs s h
  rw[hk]at h
  obtain⟨x,hx,rfl⟩:=List.mem_map.1 h
  exact bH5 hs x (hm x hx).1
 ·unfold aK1
  rw[hr]
  exact fh1 ((cm7 t _).countP_le) (dH4 _)
def aC2 (t:D5) (p:List F7):List F7→List ByteArray
 |[]=>[]
 |x::r=>ap9 t p (aa4 p) x::aC2 t (p++[x]) r
theorem aL8 (t:D5) (x:F7):∀(r p:List F7),aC2 t p (r++[x])=aC2 t p r++[ap9 t (p++r) (aa4 (p++r)) x]
 |[],p=>by simp[aC2]
 |y::r,p=>by
  show _::aC2 t (p++[y]) (r++[x])=_
  rw[aL8 t x r (p++[y])]
  simp[aC2]
theorem cG7 (t:D5) (l:List ByteArray):∀r:List ByteArray,(M6 t (l++r)).ans=(M6 t l).ans++aC2 t (l.map A8) (r.map A8):=ad1 (by simp[aC2]) fun r s ih=>by
 rw[←List.append_assoc,bj1,ih,List.map_append (l₁:=r),List.map_singleton,aL8,List.map_append (l₁:=l),List.append_assoc]
theorem db8 {t:D5} {l now:List F7} {x:F7} (h:x.kind=2):ap9 t l now x=U6 (Z5 t now) x.word x.nums:=by unfold ap9;rw[if_neg (by omega),if_neg (by omega),if_pos h]
theorem bb5 {p:List F7}:∀q:List F7,(∀x∈q,x.kind≠5∧x.kind≠6)→aa4 (p++q)=aa4 p++q.map cm6:=ad1 (fun _=>by simp) fun q x ih h=>by
 have hx:=h x (by simp)
 rw[←List.append_assoc,List.map_append,List.map_singleton,←List.append_assoc,←ih fun y hy=>h y (by simp[hy])]
 by_cases hk:x.kind=1
 ·rw[dH2 hk,bj0 hk]
 ·rw[db4 hk (by omega)];unfold cm6;rw[if_neg hk]
theorem df4 {t:D5} {p:List F7}:∀q:List F7,(∀x∈q,x.kind=0∨x.kind=1∨x.kind=2)→aC2 t p q=aC2 (Z5 t (aa4 p)) [] q:=ad1 (fun _=>rfl) fun q x ih h=>by
 have hq:=fun y (hy:y∈q)=>h y (by simp[hy])
 have hx:=h x (by simp)
 rw[aL8,aL8,ih hq,ff9]
 congr 2
 have e1:=bb5 (p:=p) q fun y hy=>by have:=hq y hy;omega
 have e2:=bb5 (p:=[]) q fun y hy=>by have:=hq y hy;omega
 rw[ff9]at e2
 rw[e1,e2]
 unfold ap9
 rw[cG9,cG9]
 rcases hx with hx|hx|hx
 ·rw[if_pos hx,if_pos hx]
 ·rw[if_neg (by omega),if_pos hx,if_neg (by omega),if_pos hx];rfl
 ·rw[if_neg (by omega),if_neg (by omega),if_pos hx,if_neg (by omega),if_neg (by omega),if_pos hx];rfl
theorem dg2 {t:D5} {p q:List ByteArray} (v:F6 t=true) (hl:(p++q).length≤24) (hq:∀s∈q,(A8 s).kind=0∨(A8 s).kind=1∨(A8 s).kind=2):
 Y1 t (p++q)=Y1 t p++Y1 (V5 t p) q∧V5 t (p++q)=V5 (V5 t p) q∧O0 t (p++q)=O0 t p++O0 (V5 t p) q:=by
 rw[ff4]at hl
 have hx:∀x∈q.map A8,x.kind=0∨x.kind=1∨x.kind=2:=fun x hx=>by
  obtain⟨s,hs,rfl⟩:=List.mem_map.1 hx
  exact hq s hs
 have vb:F6 (V5 t p)=true:=by rw[aK0 v (by omega)];exact cm4 v _
 have e1:=bb5 (p:=p.map A8) (q.map A8) fun y hy=>by have:=hx y hy;omega
 have e2:=bb5 (p:=[]) (q.map A8) fun y hy=>by have:=hx y hy;omega
 rw[ff9]at e2
 have e3:=cG7 (V5 t p) [] q
 rw[ff9]at e3
 rw[ap6 v (by simp;omega),ap6 v (by omega),ap6 vb (by omega),aK0 v (l:=p++q) (by simp;omega),aK0 vb (by omega),aS9 v (l:=p++q) (by simp;omega),aS9 v (by omega),aS9 vb (by omega),e3,cG7,df4 _ hx,List.map_append,e1,e2,cG9,df9,aK0 v (l:=p) (by omega)]
 exact⟨rfl,rfl,rfl⟩
end
section
open Go.RowKit
attribute [local go_sem] j4.drew j4.alloc j4.drewN WB.holds Oper.semAt_some
def eA5 (xs ys:List ByteArray):Nat→List ByteArray
 |0=>[]
 |1=>xs
 |_=>xs++ys
theorem bG7 (va vb:Value) (xs ys:List ByteArray) (hx:xs.length≤2000000) (hy:ys.length≤2000000) (H:j5) (w:World) (hw:j4 H w) (h1:Sl H va xs) (h2:Sl H vb ys) (b:Nat)
 (d0:∀W,j4 H W→W.cell? ⟨b,0,none⟩=some va) (d1:∀W,j4 H W→W.cell? ⟨b,1,none⟩=some vb):
 Calls Tryz.prog 19 #[.slice (some ⟨b,0,none⟩) 2 2] w (Post w H fun u H'=>Sl H' u (xs++ys)):=by
 obtain⟨a1,c1,rfl,_,_⟩:=h1.form
 obtain⟨a2,c2,rfl,_,_⟩:=h2.form
 have aX9:Hid ((([]:List ByteArray).length+xs.length)*Enc.M4 ByteArray≤140737488355328):=by show _≤_;simp only[Enc.M4,fg1];omega
 have aH8:Hid (([]:List ByteArray).length+xs.length≤9223372036854775807):=by show _≤_;simp only[fg1];omega
 have eA6:Hid ((xs.length+ys.length)*Enc.M4 ByteArray≤140737488355328):=by show _≤_;simp only[Enc.M4];omega
 have eA7:Hid (xs.length+ys.length≤9223372036854775807):=by show _≤_;omega
 replace hx:=fe6 hx
 replace hy:=fe6 hy
 go_enter Tryz.func19,Tryz.ntmps19
 go_wp2_with fail
 go_loopw [3,4] (fun v i wr=>∃(k:Nat),k≤2∧i= .int .i64 (k:Int)∧Own H w.heap.size wr 9 v (eA5 xs ys k)∧Ext w H wr H) (fun v i _=>2-(intOf i).toNat)
 case atStart=>exact⟨0,by omega,rfl,Own.nil _ _ _ _,Ext.refl hw⟩
 case round=>
  obtain⟨k,hk,rfl,o,x⟩:=hrel
  have hwr:=x.holds
  match k,hk,o with
  |0,_,o=>
   replace o:Own H w.heap.size wr 9 _ ([]:List ByteArray):=o
   go_wp2_with(at_builtin;go_must (refine aj2 (w0:=w) (H0:=H) bi0 rfl _ _ rfl x rfl o rfl h1 aX9.out aH8.out ?_);intro v3 w3 o3 x3 hw3 g3;rw[ff9]at o3)
   go_roundw
   case rel=>exact⟨1,by omega,rfl,o3,x3⟩
   case measure=>simp[intOf]
  |1,_,o=>
   replace o:Own H w.heap.size wr 9 _ xs:=o
   go_wp2_with(at_builtin;go_must (refine aj2 (w0:=w) (H0:=H) bi0 rfl _ _ rfl x rfl o rfl h2 eA6.out eA7.out ?_);intro v3 w3 o3 x3 hw3 g3)
   go_roundw
   case rel=>exact⟨2,by omega,rfl,o3,x3⟩
   case measure=>simp[intOf]
  |2,_,o=>
   replace o:Own H w.heap.size wr 9 _ (xs++ys):=o
   obtain⟨H4,x5,l5,s5,_⟩:=o.close x
   go_wp2_with fail
   go_ret
   exact⟨_,H4,rfl,x5,s5⟩
end
section
open Go.RowKit
theorem cw6 {H:j5} {a:Option Addr} {xs:List ByteArray} {c N:Nat} (hN:N≤xs.length) (h:Sl H (.slice a xs.length c) xs):
 ∃a',(∀W,(Instr.sliceAt 33 (.slice a xs.length c) none (some (.int .i64 (N:Int))) none).run Tryz.prog W= .ok (.slice a' N c) W)∧Sl H (.slice a' N c) (xs.take N):=by
 obtain⟨a0,c0,e,hc,_⟩:=h.form
 cases e
 refine⟨a,fun W=> ?_,h.take hN⟩
 have h1:(0:Int)≤(N:Int):=by omega
 have h2:(N:Int)≤(c:Int):=by omega
 have h3:(if c=0 then a else a.map (·.add (0*1)))=a:=by
  split
  ·rfl
  ·cases a with
   |none=>rfl
   |some b=>simp[Addr.add]
 simp[Instr.sliceAt,Instr.slice,Instr.sliceBounds,Instr.sliceBound,go_sem,h1]
 intro hh
 omega
theorem cG2 {H:j5} {a:Option Addr} {xs:List ByteArray} {c N:Nat} (hN:N≤xs.length) (h:Sl H (.slice a xs.length c) xs):
 ∃a',(∀W,(Instr.sliceAt 33 (.slice a xs.length c) (some (.int .i64 (N:Int))) none none).run Tryz.prog W= .ok (.slice a' (xs.length-N) (c-N)) W)∧Sl H (.slice a' (xs.length-N) (c-N)) (xs.drop N):=by
 obtain⟨a0,c0,e,hc,_⟩:=h.form
 cases e
 have h1:(0:Int)≤(N:Int):=by omega
 have h2:(N:Int)≤(xs.length:Int):=by omega
 refine⟨if c=N then a else a.map (·.add (N*1)),fun W=> ?_, ?_⟩
 ·simp[Instr.sliceAt,Instr.slice,Instr.sliceBounds,Instr.sliceBound,go_sem,h1]
  intro hh
  omega
 ·by_cases hx:c=N∨xs=[]
  ·have hl:xs.drop N=[]:=by
    rcases hx with hx|hx
    ·exact List.drop_eq_nil_of_le (by omega)
    ·subst hx;simp
   have hl2:xs.length-N=0:=by
    rcases hx with hx|hx
    ·omega
    ·subst hx;simp
   rw[hl,hl2]
   exact Sl.nil H _ (by omega)
  ·rw[not_or]at hx
   rw[if_neg hx.1]
   obtain⟨a',c',e,_,_,_,h4⟩:=id h
   cases e
   rcases h4 with h4|⟨b',o',cur,e',fr,ha,_⟩
   ·exact absurd h4 hx.2
   ·subst ha
    have hd:=Sl.cL7 h hN
    have e:Option.map (fun x=>Addr.add x (N*1)) (some (⟨b',o',none⟩:Addr))=some ⟨b',o'+N,none⟩:=by
     by_cases h0:N=0<;>simp[Addr.add,h0]
    rw[e]
    simpa [show Enc.sz ByteArray=1 from rfl]using hd
def eh9 (H:j5) (C:Nat) (t:D5):Prop:=∃p0 q0 p1 q1 p2 q2 p3 q3 p4 q4 p5 q5,H C=some (.cells #[.slice p0 t.h.ms.length q0,.slice p1 t.h.bs.length q1,.slice p2 t.h.ts.length q2,.int .i64 t.h.ch,.slice p3 t.s.mo.length q3,.slice p4 t.s.wo.length q4,.slice p5 t.s.wa.length q5,.int .i64 t.s.fr] 32 (0,0))∧
 Twn H (.slice p0 t.h.ms.length q0) (.slice p1 t.h.bs.length q1) (.slice p2 t.h.ts.length q2) (.slice p3 t.s.mo.length q3) (.slice p4 t.s.wo.length q4) (.slice p5 t.s.wa.length q5) t
def dl0 (w0:World) (H0 Hs:j5) (A K:List ByteArray) (t:D5) (v1 v2 v3 v4:Value) (w:World):Prop:=∃pa qa pk qk C Hx,v1= .slice pa A.length qa∧v2= .pointer (some ⟨C,0,none⟩)∧v3= .slice pk K.length qk∧v4= .bool true∧
 Ext w0 H0 w Hx∧D8 Hs Hx∧Sl Hx (.slice pa A.length qa) A∧Sl Hx (.slice pk K.length qk) K∧eh9 Hx C t
theorem aP9 {w0 w:World} {H0 Hs H5:j5} {A K:List ByteArray} {T:D5} {pa pk p0 p1 p2 p3 p4 p5:Option Addr} {qa qk q0 q1 q2 q3 q4 q5 C:Nat} (x:Ext w0 H0 w H5)
 (hat:w.heap[C]? =some (.cells #[.slice p0 T.h.ms.length q0,.slice p1 T.h.bs.length q1,.slice p2 T.h.ts.length q2,.int .i64 T.h.ch,.slice p3 T.s.mo.length q3,.slice p4 T.s.wo.length q4,.slice p5 T.s.wa.length q5,.int .i64 T.s.fr] 32 (0,0))) (hob:w0.heap.size≤C) (hn:H5 C=none) (le:D8 Hs H5)
 (sA:Sl H5 (.slice pa A.length qa) A) (sK:Sl H5 (.slice pk K.length qk) K) (tw:Twn H5 (.slice p0 T.h.ms.length q0) (.slice p1 T.h.bs.length q1) (.slice p2 T.h.ts.length q2) (.slice p3 T.s.mo.length q3) (.slice p4 T.s.wo.length q4) (.slice p5 T.s.wa.length q5) T):
 dl0 w0 H0 Hs A K T (.slice pa A.length qa) (.pointer (some ⟨C,0,none⟩)) (.slice pk K.length qk) (.bool true) w:=
 have l:=j5.L9 hn _
 ⟨pa,qa,pk,qk,C,_,rfl,rfl,rfl,rfl,x.freeze hob hat,le.trans l,sA.mono l,sK.mono l,p0,q0,p1,q1,p2,q2,p3,q3,p4,q4,p5,q5,j5.G7 _ _ _,tw.mono l⟩
theorem bn8 {w0 w:World} {H0 H:j5} (hx:Ext w0 H0 w H) (a b:Value) (T:TypeId):
 ∃H2,D8 H H2∧Ext w0 H0 (w.alloc (.cells #[a,b] T)) H2∧(∀W,j4 H2 W→W.cell? ⟨w.heap.size,0,none⟩=some a)∧∀W,j4 H2 W→W.cell? ⟨w.heap.size,1,none⟩=some b:=by
 have hn:=hx.holds.D6 (fh0 w.heap.size)
 have hp:=j5.G7 H w.heap.size (.cells #[a,b] T (0,0))
 exact⟨_,j5.L9 hn _,(hx.alloc _).freeze hx.below.size (heap_alloc_new w _),fun W hW=>(D7 hp hW 0).trans rfl,fun W hW=>(D7 hp hW 1).trans rfl⟩
abbrev aC3 (w:World) (C:Nat) (a b c d e f g h:Value):World:=(((((((w.setCell ⟨C,0,none⟩ a).setCell ⟨C,1,none⟩ b).setCell ⟨C,2,none⟩ c).setCell ⟨C,3,none⟩ d).setCell ⟨C,4,none⟩ e).setCell ⟨C,5,none⟩ f).setCell ⟨C,6,none⟩ g).setCell ⟨C,7,none⟩ h
theorem bq9 {w0 w:World} {H0 H:j5} {C:Nat} (c:J4 w0 H0 C 32 w H Z8) (T:D5) (p0:Option Addr) (q0:Nat) (p1:Option Addr) (q1:Nat) (p2:Option Addr) (q2:Nat) (p3:Option Addr) (q3:Nat) (p4:Option Addr) (q4:Nat) (p5:Option Addr) (q5:Nat):
 w.cell? ⟨C,0,none⟩=some (.slice none 0 0)∧w.cell? ⟨C,1,none⟩=some (.slice none 0 0)∧w.cell? ⟨C,2,none⟩=some (.slice none 0 0)∧w.cell? ⟨C,3,none⟩=some (.int .i64 0)∧w.cell? ⟨C,4,none⟩=some (.slice none 0 0)∧w.cell? ⟨C,5,none⟩=some (.slice none 0 0)∧w.cell? ⟨C,6,none⟩=some (.slice none 0 0)∧w.cell? ⟨C,7,none⟩=some (.int .i64 0)∧(∀i,w.frozen? ⟨C,i,none⟩=false)∧M9 C 32 (aC3 w C (.slice p0 T.h.ms.length q0) (.slice p1 T.h.bs.length q1) (.slice p2 T.h.ts.length q2) (.int .i64 T.h.ch) (.slice p3 T.s.mo.length q3) (.slice p4 T.s.wo.length q4) (.slice p5 T.s.wa.length q5) (.int .i64 T.s.fr)) (.slice p0 T.h.ms.length q0) (.slice p1 T.h.bs.length q1) (.slice p2 T.h.ts.length q2) (.int .i64 T.h.ch) (.slice p3 T.s.mo.length q3) (.slice p4 T.s.wo.length q4) (.slice p5 T.s.wa.length q5) (.int .i64 T.s.fr)∧Ext w0 H0 (aC3 w C (.slice p0 T.h.ms.length q0) (.slice p1 T.h.bs.length q1) (.slice p2 T.h.ts.length q2) (.int .i64 T.h.ch) (.slice p3 T.s.mo.length q3) (.slice p4 T.s.wo.length q4) (.slice p5 T.s.wa.length q5) (.int .i64 T.s.fr)) H:=by
 have r:M9 C 32 w (.slice none 0 0) (.slice none 0 0) (.slice none 0 0) (.int .i64 0) (.slice none 0 0) (.slice none 0 0) (.slice none 0 0) (.int .i64 0):=⟨c.at_⟩
 obtain⟨e0,e1,e2,e3,e4,e5,e6,e7,ef⟩:=r.cells
 exact⟨e0,e1,e2,e3,e4,e5,e6,e7,ef,r.set _ _ _ _ _ _ _ _,Ext.aC3 c.x c.ob c.oH _ _ _ _ _ _ _ _⟩
theorem aW1 {H:j5} {u:Value} {T:D5} (h:bt6 H u T):∃p0 q0 p1 q1 p2 q2 p3 q3 p4 q4 p5 q5,u=ah0 (.slice p0 T.h.ms.length q0) (.slice p1 T.h.bs.length q1) (.slice p2 T.h.ts.length q2) (.slice p3 T.s.mo.length q3) (.slice p4 T.s.wo.length q4) (.slice p5 T.s.wa.length q5) T∧
 Twn H (.slice p0 T.h.ms.length q0) (.slice p1 T.h.bs.length q1) (.slice p2 T.h.ts.length q2) (.slice p3 T.s.mo.length q3) (.slice p4 T.s.wo.length q4) (.slice p5 T.s.wa.length q5) T:=by
 obtain⟨xm,xb,xt,xp,xq,xr,rfl,tw⟩:=h
 obtain⟨p0,q0,rfl,_,_⟩:=tw.h.m.form
 obtain⟨p1,q1,rfl,_,_⟩:=tw.h.b.form
 obtain⟨p2,q2,rfl,_,_⟩:=tw.h.t.form
 obtain⟨p3,q3,rfl,_,_⟩:=tw.s.m.form
 obtain⟨p4,q4,rfl,_,_⟩:=tw.s.o.form
 obtain⟨p5,q5,rfl,_,_⟩:=tw.s.a.form
 exact⟨p0,q0,p1,q1,p2,q2,p3,q3,p4,q4,p5,q5,rfl,tw⟩
end
section
open Go.RowKit
attribute [local go_sem] j4.drew j4.alloc j4.drewN WB.holds Oper.semAt_some Q9 O1 J7
theorem dD3 {s:ByteArray} (h:dE0 s=false):(A8 s).kind=0∨(A8 s).kind=1∨(A8 s).kind=2:=by
 unfold dE0 at h
 have:=of_decide_eq_false h
 omega
theorem cG3 (vm vb vt um uo ua lv:Value) (t:D5) (l:List ByteArray) (n:Int) (H:j5) (dr:Doors H) (w:World) (hw:j4 H w) (ht:Twn H vm vb vt um uo ua t) (hl:Sl H lv l) (hnI:K8 n):
 Calls Tryz.prog 11 #[ah0 vm vb vt um uo ua t,lv,.int .i64 n] w (I1 w (.bool true)):=by
 have cW:=fun(H':j5) (W:World) (hW:j4 H' W) (hle:D8 H H')=>aO6 H' (dr.mono hle) W hW
 replace cW:=fe6 cW
 have cY:=fun(H':j5) (W:World) (hW:j4 H' W) (hle:D8 H H')=>aA3 vm vb vt um uo ua lv t l H' W hW (ht.mono hle) (hl.mono hle)
 obtain⟨al,cl,rfl,hl1,hl2⟩:=hl.form
 by_cases zn:n<0
 ·clear cY ht dr
  go_enter Tryz.func11,Tryz.ntmps11
  go_wp2_with(first|((go_at_call 18;refine(cW.out _ _ hx.holds hle).mono ?_;rintro e wz ⟨rfl,hbz⟩;have xz:=hx.step (hbz.mono hx.below.size) (hx.holds.below hbz)))|(refine af8 rfl _ rfl (Ext.refl hw) ?_;intro B w1 H1 hle hx hB hBw;obtain⟨hc0,hc1,hc2,hc3,hc4,O8,hc6,O9⟩:=I5 hB;clear hB hw;have hw1:=hx.holds))
  go_ret
  exact⟨rfl,xz.below⟩
 by_cases zl:(l.length:Int)<n
 ·clear cY ht dr
  go_enter Tryz.func11,Tryz.ntmps11
  go_wp2_with(first|((go_at_call 18;refine(cW.out _ _ hx.holds hle).mono ?_;rintro e wz ⟨rfl,hbz⟩;have xz:=hx.step (hbz.mono hx.below.size) (hx.holds.below hbz)))|(refine af8 rfl _ rfl (Ext.refl hw) ?_;intro B w1 H1 hle hx hB hBw;obtain⟨hc0,hc1,hc2,hc3,hc4,O8,hc6,O9⟩:=I5 hB;clear hB hw;have hw1:=hx.holds))
  go_ret
  exact⟨rfl,xz.below⟩
 cases hr:aF8 t l
 ·rw[hr]at cY
  replace cY:=fe6 cY
  clear hr ht dr
  go_enter Tryz.func11,Tryz.ntmps11
  go_wp2_with(first|((go_at_call 17;go_must (refine(cY.out _ _ hw1 hle).mono ?_);rintro e w2 ⟨rfl,hb2⟩;have x2:=hx.step (hb2.mono hx.below.size) (hw1.below hb2);have hw2:=x2.holds))|(refine af8 rfl _ rfl (Ext.refl hw) ?_;intro B w1 H1 hle hx hB hBw;obtain⟨hc0,hc1,hc2,hc3,hc4,O8,hc6,O9⟩:=I5 hB;clear hB hw;have hw1:=hx.holds)|((go_at_call 18;refine(cW.out _ _ x2.holds hle).mono ?_;rintro e wz ⟨rfl,hbz⟩;have xz:=x2.step (hbz.mono x2.below.size) (x2.holds.below hbz))))
  go_ret
  exact⟨rfl,xz.below⟩
 rw[hr]at cY
 have R:=aL3.1 hr
 have bn6:=R.n
 obtain⟨N,rfl⟩:∃N:Nat,n=(N:Int):=⟨n.toNat,by omega⟩
 have hNl:N≤l.length:=by omega
 have hN0:(0:Int)≤(N:Int):=by omega
 have hN1:(N:Int)≤(l.length:Int):=by omega
 have hpq:l.take N++l.drop N=l:=List.take_append_drop N l
 have tt1:decide ((N:Int)<0)=false:=by simp
 have tt2:decide (l.length<N)=false:=by simp;omega
 have tt3:decide ((l.length:Int)<(N:Int))=false:=by simp;omega
 have hsz:∀s∈l,s.size≤900:=fun s hs=>by have:=R.z s hs;omega
 have v1:F6 (V5 t (l.take N))=true:=by rw[aK0 R.v (by rw[fg6];omega)];exact cm4 R.v _
 have law:=fun(hq:∀s∈l.drop N,(A8 s).kind=0∨(A8 s).kind=1∨(A8 s).kind=2)=>dg2 (t:=t) (p:=l.take N) (q:=l.drop N) R.v (by rw[hpq];exact R.n) hq
 rw[hpq]at law
 have cU:=fun(H':j5) (W:World) (hW:j4 H' W) (hle:D8 H H')=>aD1 vm vb vt um uo ua (.slice al l.length cl) t l R.v R.n hsz H' (dr.mono hle) W hW (ht.mono hle) (hl.mono hle)
 have cV:=fun(lv:Value) (H':j5) (W:World) (hW:j4 H' W) (hle:D8 H H') (h2:Sl H' lv (l.take N))=>aD1 vm vb vt um uo ua lv t (l.take N) R.v (by rw[fg6];omega) (fun s hs=>hsz s (List.mem_of_mem_take hs)) H' (dr.mono hle) W hW (ht.mono hle) h2
 have cX:=fun(vm vb vt um uo ua lv:Value) (H':j5) (W:World) (hW:j4 H' W) (hle:D8 H H') (h1:Twn H' vm vb vt um uo ua (V5 t (l.take N))) (h2:Sl H' lv (l.drop N))=>aD1 vm vb vt um uo ua lv (V5 t (l.take N)) (l.drop N) v1 (by rw[List.length_drop];omega) (fun s hs=>hsz s (List.mem_of_mem_drop hs)) H' (dr.mono hle) W hW h1 h2
 have cZ:=fun(vm vb vt um uo ua lv:Value) (H':j5) (W:World) (hW:j4 H' W) (h1:Twn H' vm vb vt um uo ua (V5 t (l.take N))) (h2:Sl H' lv (l.drop N))=>aA3 vm vb vt um uo ua lv (V5 t (l.take N)) (l.drop N) H' W hW h1 h2
 have cM:=fun(s:ByteArray) (hs:s∈l) (H':j5) (W:World) (hW:j4 H' W)=>ea7 s (hsz s hs) H' W hW
 have af9:(Y1 t (l.take N)).length≤2000000:=by rw[ap6 R.v (by rw[fg6];omega),(ax9 _ _).1,fg6];omega
 have ag0:(Y1 (V5 t (l.take N)) (l.drop N)).length≤2000000:=by rw[ap6 v1 (by rw[List.length_drop];omega),(ax9 _ _).1,List.length_drop];omega
 have ag2:(O0 t (l.take N)).length≤2000000:=by have:=(do6 (l:=l.take N) R.v (by rw[fg6];omega)).2.1;rw[fg6]at this;omega
 have ag3:(O0 (V5 t (l.take N)) (l.drop N)).length≤2000000:=by have:=(do6 (l:=l.drop N) v1 (by rw[List.length_drop];omega)).2.1;rw[List.length_drop]at this;omega
 generalize V5 t (l.take N)=T1 at*
 generalize V5 t l=T at*
 generalize V5 T1 (l.drop N)=T2 at*
 generalize Y1 t l=A at*
 generalize Y1 t (l.take N)=A1 at*
 generalize Y1 T1 (l.drop N)=A2 at*
 generalize O0 t l=K at*
 generalize O0 t (l.take N)=K1 at*
 generalize O0 T1 (l.drop N)=K2 at*
 have slp:=fun(H':j5) (hle:D8 H H')=>(cw6 hNl (hl.mono hle))
 have slq:=fun(H':j5) (hle:D8 H H')=>(cG2 hNl (hl.mono hle))
 obtain⟨r2,hr2⟩:∃r2,aF8 T1 (l.drop N)=r2:=⟨_,rfl⟩
 rw[hr2]at cZ
 have sl:=hl
 replace cY:=fe6 cY
 replace cU:=fe6 cU
 replace cV:=fe6 cV
 replace cX:=fe6 cX
 replace cZ:=fe6 cZ
 replace cM:=fe6 cM
 replace law:=fe6 law
 replace slp:=fe6 slp
 replace slq:=fe6 slq
 replace af9:=fe6 af9
 replace ag0:=fe6 ag0
 replace ag2:=fe6 ag2
 replace ag3:=fe6 ag3
 clear hr R hpq hsz v1 ht hl zn zl hr2
 go_enter Tryz.func11,Tryz.ntmps11
 go_wp2_with(first|((go_at_call 17;go_must (refine(cY.out _ _ hw1 hle).mono ?_);rintro e w2 ⟨rfl,hb2⟩;have x2:=hx.step (hb2.mono hx.below.size) (hw1.below hb2);have hw2:=x2.holds))|(refine af8 rfl _ rfl (Ext.refl hw) ?_;intro B w1 H1 hle hx hB hBw;obtain⟨hc0,hc1,hc2,hc3,hc4,O8,hc6,O9⟩:=I5 hB;clear hB hw;have hw1:=hx.holds))
 have sl1:=sl.mono hle
 clear cY
 go_loopw [7] (fun i wr=>∃k:Nat,N≤k∧k≤l.length∧i= .int .i64 (k:Int)∧Hid (∀s∈(l.take k).drop N,dE0 s=false)∧Ext w H wr H1) (fun i _=>l.length-(intOf i).toNat)
 case atStart=>exact⟨N,fh0 _,hNl,rfl,fe6 (fun s hs=>by rw[List.drop_eq_nil_of_le (by rw[fg6];omega)]at hs;cases hs),x2⟩
 case round=>
  clear x2 hw2 hx hw1 hb2
  obtain⟨k,hNk,hk,rfl,hno,E5⟩:=hrel
  have hwr:=E5.holds
  by_cases hlk:k<l.length
  ·obtain⟨z,hz⟩:=At.mk hlk
   obtain⟨b1,o1,c1,hez,hsz,p1⟩:=sl1.str hz
   cases hez
   have hm:=fun(W:World) (hW:j4 H1 W)=>cM.out z hz.mem H1 W hW
   have hk0:(0:Int)≤(k:Int):=by omega
   have hk1:(k:Int)<(l.length:Int):=by omega
   cases hb:dE0 z
   ·rw[hb]at hm
    replace hm:=fe6 hm
    have cw8:Hid (∀s∈(l.take (k+1)).drop N,dE0 s=false):=fe6 fun s hs=>by
     rw[hz.take,List.drop_append_of_le_length (by rw[fg6];omega)]at hs
     rcases List.mem_append.1 hs with h|h
     ·exact hno.out s h
     ·rw[List.mem_singleton.1 h];exact hb
    clear hno hb hz hsz
    go_wp2_with(go_at_call 42;go_must (refine(hm.out _ hwr).mono ?_);rintro e w9 ⟨rfl,hb9⟩)
    go_roundw
    case rel=>exact⟨k+1,by omega,by omega,by go_num,cw8,E5.step (hb9.mono E5.below.size) (hwr.below hb9)⟩
    case measure=>simp[intOf];omega
   ·rw[hb]at hm
    replace hm:=fe6 hm
    clear hno hb hz hsz
    go_wp2_with(first|(go_at_call 42;go_must (refine(hm.out _ hwr).mono ?_);rintro e w9 ⟨rfl,hb9⟩;have x9:=E5.step (hb9.mono E5.below.size) (hwr.below hb9))|(go_at_call 18;refine(cW.out _ _ x9.holds hle).mono ?_;rintro e wz ⟨rfl,hbz⟩;have xz:=x9.step (hbz.mono x9.below.size) (x9.holds.below hbz)))
    go_ret
    exact⟨rfl,xz.below⟩
  ·have hke:k=l.length:=by omega
   subst hke
   rw[List.take_length]at hno
   obtain⟨e1,e2,e3⟩:=law.out fun s hs=>dD3 (hno.out s hs)
   subst e2
   replace e1:=fe6 e1
   replace e3:=fe6 e3
   have hk1:¬(l.length:Int)<(l.length:Int):=by omega
   clear hno law cM hk hNk
   go_upto_region 9 with(go_at_call 23;go_must (refine(cU.out _ _ hwr hle).mono ?_);rintro e w3 ⟨_,H3,rfl,y3,va,vt',vk,rfl,sA,⟨xm,xb,xt,xp,xq,xr,rfl,tw3⟩,sK⟩;obtain⟨pA,qA,rfl,_,_⟩:=sA.form;obtain⟨pK,qK,rfl,_,_⟩:=sK.form;obtain⟨p0,pq0,rfl,_,_⟩:=tw3.h.m.form;obtain⟨p1,pq1,rfl,_,_⟩:=tw3.h.b.form;obtain⟨p2,pq2,rfl,_,_⟩:=tw3.h.t.form;obtain⟨p3,pq3,rfl,_,_⟩:=tw3.s.m.form;obtain⟨p4,pq4,rfl,_,_⟩:=tw3.s.o.form;obtain⟨p5,pq5,rfl,_,_⟩:=tw3.s.a.form;have x3:=E5.trans y3)
   have hn_:H3 (World.heap w3).size=none:=(x3).holds.D6 (fh0 _)
   have x4:=((x3).alloc (.cells #[.slice p0 T.h.ms.length pq0,.slice p1 T.h.bs.length pq1,.slice p2 T.h.ts.length pq2,.int .i64 T.h.ch,.slice p3 T.s.mo.length pq3,.slice p4 T.s.wo.length pq4,.slice p5 T.s.wa.length pq5,.int .i64 T.s.fr] 32)).freeze (x3).below.size (heap_alloc_new w3 _)
   have l4:=j5.L9 hn_ (.cells #[.slice p0 T.h.ms.length pq0,.slice p1 T.h.bs.length pq1,.slice p2 T.h.ts.length pq2,.int .i64 T.h.ch,.slice p3 T.s.mo.length pq3,.slice p4 T.s.wo.length pq4,.slice p5 T.s.wa.length pq5,.int .i64 T.s.fr] 32 (0,0))
   have eb6:=j5.G7 H3 (World.heap w3).size (.cells #[.slice p0 T.h.ms.length pq0,.slice p1 T.h.bs.length pq1,.slice p2 T.h.ts.length pq2,.int .i64 T.h.ch,.slice p3 T.s.mo.length pq3,.slice p4 T.s.wo.length pq4,.slice p5 T.s.wa.length pq5,.int .i64 T.s.fr] 32 (0,0))
   clear hn_
   generalize j5.put H3 (World.heap w3).size (.cells #[.slice p0 T.h.ms.length pq0,.slice p1 T.h.bs.length pq1,.slice p2 T.h.ts.length pq2,.int .i64 T.h.ch,.slice p3 T.s.mo.length pq3,.slice p4 T.s.wo.length pq4,.slice p5 T.s.wa.length pq5,.int .i64 T.s.fr] 32 (0,0))=H4 at*
   generalize World.alloc w3 (.cells #[.slice p0 T.h.ms.length pq0,.slice p1 T.h.bs.length pq1,.slice p2 T.h.ts.length pq2,.int .i64 T.h.ch,.slice p3 T.s.mo.length pq3,.slice p4 T.s.wo.length pq4,.slice p5 T.s.wa.length pq5,.int .i64 T.s.fr] 32)=w4 at*
   generalize(World.heap w3).size=C at*
   have l14:D8 H1 H4:=(y3.le hwr).trans l4
   have bd9:D8 H H4:=hle.trans l14
   have twA:=tw3.mono l4
   replace sA:=sA.mono l4
   replace sK:=sK.mono l4
   obtain⟨d0,d1,d2,d3,d4,d5,d6,d7⟩:=I5 (t:=T) eb6
   replace hc0:=lift l14 hc0
   replace hc1:=lift l14 hc1
   replace hc2:=lift l14 hc2
   replace hc3:=lift l14 hc3
   replace hc4:=lift l14 hc4
   replace O8:=lift l14 O8
   replace hc6:=lift l14 hc6
   replace O9:=lift l14 O9
   have hw4:=x4.holds
   obtain⟨ap,hrp,sp⟩:=slp.out H4 bd9
   obtain⟨aq,hrq,sq⟩:=slq.out H4 bd9
   replace sp:=fe6 sp
   clear x3 y3 E5 hwr sl1 cU tw3 eb6 l4 slp slq
   go_cut [12,13,14,15] (fun v1 v2 v3 v4 wx=>dl0 w H H4 A1 K1 T1 v1 v2 v3 v4 wx)
   case first=>
    refine U1 (S:=(fun w'=>j4 H4 w')) 14 (by kernel_rfl) (by kernel_rfl) ?_ (fun N9=> ?_)
    ·(try dsimp only)
     (first|assumption|exact j4.drew ‹_›|exact j4.alloc ‹_› _)
    simp only[ff8,fg1,fh6,fh7,fg9,fg8,fg3,ff9,fg2]
    have xr0:=x4.drew
    have lr0:D8 H4 H4:=D8.refl _
    generalize World.drew w4=wr0 at*
    refine hdA 0 ?_
    refine hdA 1 ?_
    refine hdA 2 ?_
    refine hdA 3 ?_
    (try simp only[Act.put,fe7,ff1,ff2])
    refine hdR 4 [10] (fun K hK=> ?_) ?_
    ·go_simp
     go_at_call 23
     go_must (refine(cV.out _ _ _ xr0.holds bd9 sp.out).mono ?_)
     rintro e wr1 ⟨_,G1,rfl,y,va5,vt5,vk5,rfl,sA5,tv5,sK5⟩
     obtain⟨pA,qA,rfl,_,_⟩:=sA5.form
     obtain⟨pK,qK,rfl,_,_⟩:=sK5.form
     obtain⟨p0,q0,p1,q1,p2,q2,p3,q3,p4,q4,p5,q5,rfl,Q0⟩:=aW1 tv5
     have xr1:=xr0.trans y
     have lr1:=lr0.trans (y.le xr0.holds)
     have kk:=xr1.holds.mono lr1
     clear y
     refine hK.out _ _ kk (fun I4=> ?_)
     clear hK K N9
     refine hdA 5 ?_
     refine hdA 6 ?_
     refine hdA 7 ?_
     refine hdA 8 ?_
     refine hdA 9 ?_
     (try simp only[Act.put,fe7,ff1,ff2])
     refine hdR 10 [] (fun K hK=> ?_) r9.nil
     go_simp
     have ag4:=J4.new xr1 Z8 32
     have bo0:=ag4.x
     have kk:=bo0.holds.mono lr1
     generalize World.alloc wr1 (.cells Z8 32)=cx0 at*
     generalize(World.heap wr1).size=C at*
     refine hK.out _ _ kk (fun F8=> ?_)
     clear hK K I4
     refine hdA 11 ?_
     (try simp only[Act.put,fe7,ff1,ff2])
     refine hdR 12 [] (fun K hK=> ?_) r9.nil
     obtain⟨e0,e1,e2,e3,e4,e5,e6,e7,ef,rz,xz⟩:=bq9 ag4 T1 p0 q0 p1 q1 p2 q2 p3 q3 p4 q4 p5 q5
     go_simp
     refine hK.out _ _ (xz.holds.mono lr1) (fun F9=> ?_)
     clear hK K F8
     refine hdA 13 ?_
     (try simp only[Act.put,fe7,ff1,ff2])
     refine G9 (by kernel_rfl) ?_
     simp only[ff5,ff6]
     go_wp2_with fail
     go_meet
     exact aP9 xz rz.at_ ag4.ob ag4.oH lr1 sA5 sK5 Q0
    refine r9.cons (by simp only[ff0,fe9,fe8]<;>rfl) (fun K hK=> ?_) ?_
    ·go_simp
     have ag5:=J4.new xr0 Z8 32
     have cW4:=ag5.x
     have kk:=cW4.holds.mono lr0
     generalize World.alloc wr0 (.cells Z8 32)=ed3 at*
     generalize(World.heap wr0).size=C at*
     refine hK.out _ _ kk (fun I4=> ?_)
     clear hK K N9
     (try simp only[Act.put,fe7,ff1,ff2])
     refine hdR 4 [] (fun K hK=> ?_) r9.nil
     go_simp
     go_at_call 23
     go_must (refine(cV.out _ _ _ cW4.holds bd9 sp.out).mono ?_)
     rintro e cx0 ⟨_,G1,rfl,y,va5,vt5,vk5,rfl,sA5,tv5,sK5⟩
     obtain⟨pA,qA,rfl,_,_⟩:=sA5.form
     obtain⟨pK,qK,rfl,_,_⟩:=sK5.form
     obtain⟨p0,q0,p1,q1,p2,q2,p3,q3,p4,q4,p5,q5,rfl,Q0⟩:=aW1 tv5
     have bo0:=cW4.trans y
     have ag4:=ag5.ext y
     have lr1:=lr0.trans (y.le cW4.holds)
     have kk:=bo0.holds.mono lr1
     clear y
     refine hK.out _ _ kk (fun F8=> ?_)
     clear hK K I4
     refine hdA 5 ?_
     refine hdA 6 ?_
     refine hdA 7 ?_
     refine hdA 8 ?_
     refine hdA 9 ?_
     refine hdA 11 ?_
     (try simp only[Act.put,fe7,ff1,ff2])
     refine hdR 12 [] (fun K hK=> ?_) r9.nil
     obtain⟨e0,e1,e2,e3,e4,e5,e6,e7,ef,rz,xz⟩:=bq9 ag4 T1 p0 q0 p1 q1 p2 q2 p3 q3 p4 q4 p5 q5
     go_simp
     refine hK.out _ _ (xz.holds.mono lr1) (fun F9=> ?_)
     clear hK K F8
     refine hdA 13 ?_
     (try simp only[Act.put,fe7,ff1,ff2])
     refine G9 (by kernel_rfl) ?_
     simp only[ff5,ff6]
     go_wp2_with fail
     go_meet
     exact aP9 xz rz.at_ ag4.ob ag4.oH lr1 sA5 sK5 Q0
    exact r9.nil
   case rest=>
    obtain⟨pB,qB,pL,qL,E,H5,rfl,rfl,rfl,rfl,x5,l5,sB,sL,q0,m0,q1,m1,q2,m2,q3,m3,q4,m4,q5,m5,ek5,Q0⟩:=hcut
    obtain⟨f0,f1,f2,f3,f4,f5,f6,f7⟩:=I5 (t:=T1) ek5
    have hw5:=x5.holds
    have eA9:=bd9.trans l5
    replace sq:=sq.mono l5
    replace d0:=lift l5 d0
    replace d1:=lift l5 d1
    replace d2:=lift l5 d2
    replace d3:=lift l5 d3
    replace d4:=lift l5 d4
    replace d5:=lift l5 d5
    replace d6:=lift l5 d6
    replace d7:=lift l5 d7
    replace twA:=twA.mono l5
    replace sA:=sA.mono l5
    replace sK:=sK.mono l5
    have ah3:=fun(W:World) (hW:j4 H5 W)=>cZ.out _ _ _ _ _ _ _ H5 W hW Q0 sq
    replace ah3:=fe6 ah3
    clear x4 hw4 hrp sp hc0 hc1 hc2 hc3 hc4 O8 hc6 O9 cZ cV l5 l14 hle
    cases r2
    ·clear cX
     go_upto_region 10 with fail
     refine E8 H5 (by kernel_rfl) (by kernel_rfl) hw5 (fun hne=> ?_)
     repeat go_big_quiet_step((first|(go_at_call 17;exact Calls.am7 (ah3.out _ (WB.holds _)))))
     refine wpQuiet_nil ?_
     rintro⟨w2,hw2,hb2⟩
     clear hne
     have x6:=x5.step (hb2.mono x5.below.size) (hw5.below hb2)
     go_wp2_with(go_at_call 18;refine(cW.out _ _ x6.holds eA9).mono ?_;rintro e wz ⟨rfl,hbz⟩;have xz:=x6.step (hbz.mono x6.below.size) (x6.holds.below hbz))
     go_ret
     exact⟨rfl,xz.below⟩
    ·go_upto_region 10 with fail
     refine E8 H5 (by kernel_rfl) (by kernel_rfl) hw5 (fun hne=> ?_)
     repeat go_big_quiet_step((first|(go_at_call 17;exact Calls.am7 (ah3.out _ (WB.holds _)))))
     refine wpQuiet_nil ?_
     rintro⟨w2,hw2,hb2⟩
     clear hne
     have x6:=x5.step (hb2.mono x5.below.size) (hw5.below hb2)
     have hw6:=x6.holds
     replace sq:=fe6 sq
     replace Q0:=fe6 Q0
     clear x5 hw5 ah3
     go_upto_region 12 with fail
     go_cut [16,17,18,19] (fun v1 v2 v3 v4 wx=>dl0 w H H5 A2 K2 T v1 v2 v3 v4 wx)
     case first=>
      refine U1 (S:=(fun w'=>j4 H5 w')) 14 (by kernel_rfl) (by kernel_rfl) ?_ (fun N9=> ?_)
      ·(try dsimp only)
       (first|assumption|exact j4.drew ‹_›|exact j4.alloc ‹_› _)
      simp only[ff8,fg1,fh6,fh7,fg9,fg8,fg3,ff9,fg2]
      have xr0:=x6.drew
      have lr0:D8 H5 H5:=D8.refl _
      generalize World.drew w2=wr0 at*
      refine hdA 0 ?_
      refine hdA 1 ?_
      refine hdA 2 ?_
      refine hdA 3 ?_
      (try simp only[Act.put,fe7,ff1,ff2])
      refine hdR 4 [10] (fun K hK=> ?_) ?_
      ·go_simp
       go_at_call 23
       go_must (refine(cX.out _ _ _ _ _ _ _ _ _ xr0.holds eA9 Q0.out sq.out).mono ?_)
       rintro e wr1 ⟨_,G1,rfl,y,va5,vt5,vk5,rfl,sA5,tv5,sK5⟩
       obtain⟨pA,qA,rfl,_,_⟩:=sA5.form
       obtain⟨pK,qK,rfl,_,_⟩:=sK5.form
       obtain⟨p0,q0,p1,q1,p2,q2,p3,q3,p4,q4,p5,q5,rfl,Q0⟩:=aW1 tv5
       have xr1:=xr0.trans y
       have lr1:=lr0.trans (y.le xr0.holds)
       have kk:=xr1.holds.mono lr1
       clear y
       refine hK.out _ _ kk (fun I4=> ?_)
       clear hK K N9
       refine hdA 5 ?_
       refine hdA 6 ?_
       refine hdA 7 ?_
       refine hdA 8 ?_
       refine hdA 9 ?_
       (try simp only[Act.put,fe7,ff1,ff2])
       refine hdR 10 [] (fun K hK=> ?_) r9.nil
       go_simp
       have ag4:=J4.new xr1 Z8 32
       have bo0:=ag4.x
       have kk:=bo0.holds.mono lr1
       generalize World.alloc wr1 (.cells Z8 32)=cx0 at*
       generalize(World.heap wr1).size=C at*
       refine hK.out _ _ kk (fun F8=> ?_)
       clear hK K I4
       refine hdA 11 ?_
       (try simp only[Act.put,fe7,ff1,ff2])
       refine hdR 12 [] (fun K hK=> ?_) r9.nil
       obtain⟨e0,e1,e2,e3,e4,e5,e6,e7,ef,rz,xz⟩:=bq9 ag4 T p0 q0 p1 q1 p2 q2 p3 q3 p4 q4 p5 q5
       go_simp
       refine hK.out _ _ (xz.holds.mono lr1) (fun F9=> ?_)
       clear hK K F8
       refine hdA 13 ?_
       (try simp only[Act.put,fe7,ff1,ff2])
       refine G9 (by kernel_rfl) ?_
       simp only[ff5,ff6]
       go_wp2_with fail
       go_meet
       exact aP9 xz rz.at_ ag4.ob ag4.oH lr1 sA5 sK5 Q0
      refine r9.cons (by simp only[ff0,fe9,fe8]<;>rfl) (fun K hK=> ?_) ?_
      ·go_simp
       have ag5:=J4.new xr0 Z8 32
       have cW4:=ag5.x
       have kk:=cW4.holds.mono lr0
       generalize World.alloc wr0 (.cells Z8 32)=ed3 at*
       generalize(World.heap wr0).size=C at*
       refine hK.out _ _ kk (fun I4=> ?_)
       clear hK K N9
       (try simp only[Act.put,fe7,ff1,ff2])
       refine hdR 4 [] (fun K hK=> ?_) r9.nil
       go_simp
       go_at_call 23
       go_must (refine(cX.out _ _ _ _ _ _ _ _ _ cW4.holds eA9 Q0.out sq.out).mono ?_)
       rintro e cx0 ⟨_,G1,rfl,y,va5,vt5,vk5,rfl,sA5,tv5,sK5⟩
       obtain⟨pA,qA,rfl,_,_⟩:=sA5.form
       obtain⟨pK,qK,rfl,_,_⟩:=sK5.form
       obtain⟨p0,q0,p1,q1,p2,q2,p3,q3,p4,q4,p5,q5,rfl,Q0⟩:=aW1 tv5
       have bo0:=cW4.trans y
       have ag4:=ag5.ext y
       have lr1:=lr0.trans (y.le cW4.holds)
       have kk:=bo0.holds.mono lr1
       clear y
       refine hK.out _ _ kk (fun F8=> ?_)
       clear hK K I4
       refine hdA 5 ?_
       refine hdA 6 ?_
       refine hdA 7 ?_
       refine hdA 8 ?_
       refine hdA 9 ?_
       refine hdA 11 ?_
       (try simp only[Act.put,fe7,ff1,ff2])
       refine hdR 12 [] (fun K hK=> ?_) r9.nil
       obtain⟨e0,e1,e2,e3,e4,e5,e6,e7,ef,rz,xz⟩:=bq9 ag4 T p0 q0 p1 q1 p2 q2 p3 q3 p4 q4 p5 q5
       go_simp
       refine hK.out _ _ (xz.holds.mono lr1) (fun F9=> ?_)
       clear hK K F8
       refine hdA 13 ?_
       (try simp only[Act.put,fe7,ff1,ff2])
       refine G9 (by kernel_rfl) ?_
       simp only[ff5,ff6]
       go_wp2_with fail
       go_meet
       exact aP9 xz rz.at_ ag4.ob ag4.oH lr1 sA5 sK5 Q0
      exact r9.nil
     case rest=>
      obtain⟨pC,qC,pM,qM,F,H6,rfl,rfl,rfl,rfl,x7,l6,sC,sM,s0,n0,s1,n1,s2,n2,s3,n3,s4,n4,s5,n5,ek6,tw6⟩:=hcut
      obtain⟨g0,g1,g2,g3,g4,g5,g6,g7⟩:=I5 (t:=T) ek6
      have hw7:=x7.holds
      replace d0:=lift l6 d0
      replace d1:=lift l6 d1
      replace d2:=lift l6 d2
      replace d3:=lift l6 d3
      replace d4:=lift l6 d4
      replace d5:=lift l6 d5
      replace d6:=lift l6 d6
      replace d7:=lift l6 d7
      replace sA:=sA.mono l6
      replace sB:=sB.mono l6
      replace sK:=sK.mono l6
      replace sL:=sL.mono l6
      have eF4:=eA9.trans l6
      have twB:=twA.mono l6
      have cA:=fun(H':j5) (W:World) (hW:j4 H' W) (hle:D8 H6 H')=>aU4 _ _ _ _ _ _ _ _ _ _ _ _ T H' W hW (twB.mono hle) (tw6.mono hle)
      have cS:∀(va vb:Value) (xs:List ByteArray) (H':j5) (W:World),j4 H' W→Sl H' va xs→Sl H' vb xs→Calls Tryz.prog 25 #[va,vb] W (I1 W (.bool true)):=fun va vb xs H' W hW h1 h2=>by simpa using bK5 va vb xs xs H' W hW h1 h2
      have cJ1:∀(H':j5) (W:World),j4 H' W→D8 H6 H'→∀b:Nat,(∀W,j4 H' W→W.cell? ⟨b,0,none⟩=some (.slice pB A1.length qB))→(∀W,j4 H' W→W.cell? ⟨b,1,none⟩=some (.slice pC A2.length qC))→Calls Tryz.prog 19 #[.slice (some ⟨b,0,none⟩) 2 2] W (Post W H' fun u H'=>Sl H' u A):=fun H' W hW hle b d0 d1=>by rw[e1.out];exact bG7 _ _ A1 A2 af9.out ag0.out H' W hW (sB.mono hle) (sC.mono hle) b d0 d1
      have cJ2:∀(H':j5) (W:World),j4 H' W→D8 H6 H'→∀b:Nat,(∀W,j4 H' W→W.cell? ⟨b,0,none⟩=some (.slice pL K1.length qL))→(∀W,j4 H' W→W.cell? ⟨b,1,none⟩=some (.slice pM K2.length qM))→Calls Tryz.prog 19 #[.slice (some ⟨b,0,none⟩) 2 2] W (Post W H' fun u H'=>Sl H' u K):=fun H' W hW hle b d0 d1=>by rw[e3.out];exact bG7 _ _ K1 K2 ag2.out ag3.out H' W hW (sL.mono hle) (sM.mono hle) b d0 d1
      replace cA:=fe6 cA
      replace cS:=fe6 cS
      replace cJ1:=fe6 cJ1
      replace cJ2:=fe6 cJ2
      have mk1:Hid True:=fe6 trivial
      have mk2:Hid True:=fe6 trivial
      clear x6 hw6 twA twB tw6 ek6 ek5 sq Q0 cX l6 f0 f1 f2 f3 f4 f5 f6 f7 hrq
      go_wp2_with(first|((have hgd:=mk1;clear hgd;go_at_call 19;obtain⟨HA,lA,xA,e0,e1⟩:=bn8 x7 (.slice pB (List.length A1) qB) (.slice pC (List.length A2) qC) 33;go_must (refine(cJ1.out _ _ xA.holds lA _ e0 e1).mono ?_);rintro e wB ⟨_,HB,rfl,yB,sJ⟩;obtain⟨pJ,qJ,rfl,_,_⟩:=sJ.form;have xB:=xA.trans yB;have hwB:=xB.holds;have lB:=lA.trans (yB.le xA.holds);clear mk1))|((have hgd:=mk2;clear hgd;go_at_call 25;go_must (refine(cS.out _ _ _ HB _ hwB (sA.mono lB) sJ).mono ?_);rintro e wC ⟨rfl,hbC⟩;have xC:=xB.step (hbC.mono xB.below.size) (hwB.below hbC);have hwC:=xC.holds;have h6C:=hwC.mono lB;clear mk2 hwB))|((go_at_call 24;go_must (refine(cA.out HB _ hwC lB).mono ?_);rintro e wD ⟨rfl,hbD⟩;have xD:=xC.step (hbD.mono xC.below.size) (hwC.below hbD);have hwD:=xD.holds;clear hwC h6C))|((go_at_call 19;obtain⟨HE,lE,xE,e0',e1'⟩:=bn8 xD (.slice pL (List.length K1) qL) (.slice pM (List.length K2) qM) 33;go_must (refine(cJ2.out _ _ xE.holds (lB.trans lE) _ e0' e1').mono ?_);rintro e wF ⟨_,HF,rfl,yF,sI⟩;obtain⟨pI,qI,rfl,_,_⟩:=sI.form;have xF:=xE.trans yF;have hwF:=xF.holds;have lF:=(lB.trans lE).trans (yF.le xE.holds)))|((go_at_call 25;go_must (refine(cS.out _ _ _ HF _ hwF (sK.mono lF) sI).mono ?_);rintro e wG ⟨rfl,hbG⟩;have xG:=xF.step (hbG.mono xF.below.size) (hwF.below hbG);have hwG:=xG.holds))|((go_at_call 18;refine(cW.out _ _ xG.holds (eF4.trans lF)).mono ?_;rintro e wz ⟨rfl,hbz⟩;have xz:=xG.step (hbz.mono xG.below.size) (xG.holds.below hbz))))
      go_ret
      exact⟨rfl,xz.below⟩
end
end Go.Proofs.YtbliehinagkldaaGreatDoor
