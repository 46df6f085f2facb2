/- Proved here: OverseerBookCardSaid: the law OverseerBook returns true for all towns and lines, and they read afterwards as they did. Conditions: none beyond those of the given statement. -/
import Derived.Test.YtbliehinagkldaaGreatDoorG01
import Derived.Test.YtbliehinagkldaaGreatDoorG02
import Derived.Test.YtbliehinagkldaaGreatDoorG03
import Derived.Test.YtbliehinagkldaaGreatDoorG04
import Derived.Test.YtbliehinagkldaaGreatDoorG05
import Derived.Test.YtbliehinagkldaaGreatDoorG10
import Derived.Test.YtbliehinagkldaaGreatDoorG19
import Derived.Deep.Slices
import Derived.SizedLaws
import Derived.OpenShut
import Derived.Lib.SmallJoins
import Derived.Deep.Strs
import Derived.Test.YtbliehinagkldaaGreatDoorRows
import Derived.Test.YtbliehinagkldaaGreatDoorTie
import Derived.Test.YtbliehinagkldaaGreatDoorCards
import Derived.ProofKit
import Derived.SevenTiedAt
import Derived.Rings

set_option linter.all false
set_option maxRecDepth 100000
set_option maxHeartbeats 16000000
open Go.Lib renaming hid → fe6
open List renaming set_cons_zero → ff1, set_cons_succ → ff2, length_cons → ff8, length_map → fg5
open Nat renaming le_refl → fh0, le_trans → fh1, zero_le → fh3
namespace Go.Proofs.YtbliehinagkldaaGreatDoor
open Go.Proofs.YtbliehinagkldaaGreatDoor renaming u7 → uI7
section
theorem ck7 (t:D5) (l:List F7) (x:F7):O3 t (l++[x])=O3 t l++[(M8 (Z5 t l) x).2]:=by
 induction l generalizing t with
 |nil=>rfl
 |cons y l ih=>show _::O3 _ (l++[x])=_;rw[ih];rfl
end
section
open Go.RowKit Go.ChangeShapes Go.WideShapes Go.Deep
theorem aJ9 (w:World):j4 (ad6 w) w:=⟨fun _ _ e=>e⟩
end
section
theorem dH0 {t:D5} {x:F7} (h:(M8 t x).2=false):(M8 t x).1=t:=by
 unfold M8 at*
 split at h
 ·rename_i hk
  rw[if_pos hk]
  unfold changed at*
  cases ho:M5 t x.word x.nums with
  |none=>rfl
  |some o=>
   rw[ho]at h
   simp only at h ⊢
   split at h
   ·cases h
   ·rename_i hv;rw[if_neg hv]
 ·rename_i hk;rw[if_neg hk]
theorem cz4:∀(s:List UInt8),∀w∈R9 s,∀b∈w,b≠32:=ad1 (fun w hw b hb=>by
 have:w=[]:=by simpa [R9]using hw
 rw[this]at hb;cases hb) fun s c ih w hw b hb=>by
 rw[ap3]at hw
 unfold U7 at hw
 split at hw
 ·rcases List.mem_append.1 hw with h|h
  ·exact ih w h b hb
  ·have:w=[]:=by simpa using h
   rw[this]at hb;cases hb
 ·rename_i hc
  rcases List.mem_append.1 hw with h|h
  ·exact ih w (List.dropLast_subset _ h) b hb
  ·have e:w=(R9 s).getLastD []++[c]:=by simpa using h
   rw[e]at hb
   rcases List.mem_append.1 hb with h2|h2
   ·have hne:=aB3 s
    rw[List.getLastD_eq_getLast?,List.getLast?_eq_some_getLast hne]at h2
    exact ih _ (List.getLast_mem hne) b h2
   ·have:b=c:=by simpa using h2
    rw[this];exact hc
theorem bL1 (s:ByteArray):∀w∈C9 s,∀b∈C8 w,b≠32:=fun w hw b hb=>by
 obtain⟨x,hx,rfl⟩:=List.mem_map.1 hw
 exact cz4 (C8 s) x hx b hb
theorem bD7:∀l:List (List UInt8),l≠[]→(∀w∈l,∀b∈w,b≠32)→R9 (joinL l)=l
 |[],h,_=>absurd rfl h
 |[a],_,h=>aF1 (h a (by simp))
 |a::b::l,_,h=>by
  show R9 (a++32::joinL (b::l))=_
  rw[bi7,aF1 (h a (by simp)),bD7 (b::l) (by simp) fun w hw=>h w (List.mem_cons_of_mem _ hw)]
  rfl
theorem cM6 {l:List ByteArray} (hne:l≠[]) (h:∀w∈l,∀b∈C8 w,b≠32):C9 (J9 l)=l:=by
 rw[aU7]
 unfold C9
 rw[show C8 (J8 (joinL (l.map C8)))=joinL (l.map C8)from rfl,bD7 _ (by simpa using hne) fun w hw b hb=>by
  obtain⟨x,hx,rfl⟩:=List.mem_map.1 hw
  exact h x hx b hb]
 rw[List.map_map,show(J8 ∘ C8)=id from funext fun _=>rfl,List.map_id]
theorem db1 {p:List ByteArray} (hne:p≠[]) (h:∀w∈p,∀b∈C8 w,b≠32) (hk:(A7 p).kind≠0):A8 (J9 p)=A7 p:=by
 unfold A8
 rw[cM6 hne h,bd8 hk]
end
section
theorem db4 {l:List F7} {x:F7} (hk:x.kind≠1) (he:(x.kind=5∨x.kind=6)→at5 l x.of=false):aa4 (l++[x])=aa4 l++[E9]:=by
 rw[aD5]
 unfold ak4
 rw[if_neg hk,if_neg]
 rintro⟨h1,h2⟩
 rw[he h1]at h2;cases h2
theorem dH2 {l:List F7} {x:F7} (hk:x.kind=1):aa4 (l++[x])=aa4 l++[x]:=by
 rw[aD5]
 unfold ak4
 rw[if_pos hk]
def cm6 (x:F7):F7:=if x.kind=1 then x else E9
theorem aI7:∀l:List F7,(∀x∈l,x.kind≠5∧x.kind≠6)→aa4 l=l.map cm6:=ad1 (fun _=>rfl) fun l x ih h=>by
 have hx:=h x (by simp)
 rw[List.map_append,List.map_singleton,←ih fun y hy=>h y (by simp[hy])]
 by_cases hk:x.kind=1
 ·rw[dH2 hk];unfold cm6;rw[if_pos hk]
 ·rw[db4 hk (by omega)];unfold cm6;rw[if_neg hk]
theorem bj0 {x:F7} (h:x.kind=1):cm6 x=x:=by unfold cm6;rw[if_pos h]
end
section
def ch4 (x:F7):Prop:=x.kind=1→A8 x.text=x
theorem db5:ch4 E9:=fun h=>by cases h
theorem db6 (s:ByteArray):ch4 (A8 s):=fun h=>by rw[(ca2 (.inl h)).1]
theorem do2 (s:ByteArray):ch4 (av1 (A8 s)):=by
 by_cases h:(A8 s).kind=5
 ·obtain⟨a,b,c,e,h1,h2,h3,h4⟩:=ca3 h
  intro _
  rw[h4,(av0 (p:=e) (by omega)).1,db1 h2 (fun w hw=>bL1 s w (by rw[h1];simp[hw])) (by omega)]
 ·rw[bU3 h];exact db5
theorem do3 (l:List ByteArray):∀x∈aa4 (l.map A8),ch4 x:=cF5 db5 (fun x hx _=>by
 obtain⟨s,_,rfl⟩:=List.mem_map.1 hx;exact db6 s) fun x hx=>by
 obtain⟨s,_,rfl⟩:=List.mem_map.1 hx;exact do2 s
def ai8 (t:D5):List F7→List F7
 |[]=>[]
 |x::l=>(if(M8 t x).2 then [x]else [])++ai8 (M8 t x).1 l
theorem bL2 (t:D5) (l:List F7):aZ9 t l=(ai8 t l).map (·.text):=by
 induction l generalizing t with
 |nil=>rfl
 |cons x l ih=>
  unfold aZ9 ai8
  rw[ih,List.map_append]
  split<;>rfl
theorem cf6 {t:D5} {x:F7} (h:(M8 t x).2=true):x.kind=1:=by
 unfold M8 at h
 split at h
 ·assumption
 ·cases h
theorem do4 (t:D5) (l:List F7):∀x∈ai8 t l,x∈l∧x.kind=1:=by
 induction l generalizing t with
 |nil=>intro x hx;cases hx
 |cons y l ih=>
  intro x hx
  unfold ai8 at hx
  rcases List.mem_append.1 hx with hx|hx
  ·split at hx
   ·rename_i hy
    have:x=y:=by simpa using hx
    subst this
    exact⟨by simp,cf6 hy⟩
   ·cases hx
  ·have:=ih _ x hx
   exact⟨by simp[this.1],this.2⟩
theorem cm7 (t:D5) (l:List F7):(ai8 t l).Sublist l:=by
 induction l generalizing t with
 |nil=>exact List.Sublist.slnil
 |cons x l ih=>
  unfold ai8
  split
  ·exact(ih _).cons_cons x
  ·exact(ih _).cons x
theorem cM9 (t:D5) (l:List F7):Z5 t (ai8 t l)=Z5 t l∧ai8 t (ai8 t l)=ai8 t l∧O3 t (ai8 t l)=List.replicate (ai8 t l).length true:=by
 induction l generalizing t with
 |nil=>exact⟨rfl,rfl,rfl⟩
 |cons x l ih=>
  cases h:(M8 t x).2 with
  |true=>
   obtain⟨a,b,c⟩:=ih (M8 t x).1
   have e:ai8 t (x::l)=x::ai8 (M8 t x).1 l:=by
    show(if(M8 t x).2=true then [x]else [])++_=_
    rw[h];rfl
   rw[e]
   refine⟨a, ?_, ?_⟩
   ·show(if(M8 t x).2=true then [x]else [])++ai8 _ (ai8 _ l)=_
    rw[h,b];rfl
   ·show(M8 t x).2::O3 _ (ai8 _ l)=_
    rw[h,c,ff8,List.replicate_succ]
  |false=>
   have e1:=dH0 h
   have e:ai8 t (x::l)=ai8 t l:=by
    show(if(M8 t x).2=true then [x]else [])++ai8 (M8 t x).1 l=_
    rw[h,e1];rfl
   rw[e]
   have:=ih t
   refine⟨?_,this.2⟩
   show _=Z5 (M8 t x).1 l
   rw[e1];exact this.1
theorem bD8 (t:D5):∀l:List ByteArray,(∀s∈l,(A8 s).kind=1)→(M6 t l).ans=(O3 t (l.map A8)).map ae4:=ad1 (fun _=>rfl) fun l s ih h=>by
 have hl:=fun x (hx:x∈l)=>h x (by simp[hx])
 have hs:=h s (by simp)
 have hn:aa4 (l.map A8)=l.map A8:=by
  rw[aI7 _ fun x hx=>by
   obtain⟨y,hy,rfl⟩:=List.mem_map.1 hx
   have:=hl y hy;omega]
  rw[List.map_map]
  exact List.map_congr_left fun y hy=>bj0 (hl y hy)
 rw[bj1,ih hl,hn,List.map_append,List.map_singleton,ck7,List.map_append,List.map_singleton]
 unfold ap9 M8
 rw[if_neg (by omega),if_pos hs,if_pos hs]
theorem bo7 {p:F7→Bool}:∀(l:List F7) (k:Nat) (y:F7),(l.set k y).countP p≤l.countP p+(if p y then 1 else 0)
 |[],k,y=>by simp
 |x::l,0,y=>by
  rw[ff1,List.countP_cons,List.countP_cons];omega
 |x::l,k+1,y=>by
  have:=bo7 (p:=p) l k y
  rw[ff2,List.countP_cons,List.countP_cons];omega
theorem bU4:aT0 E9=false:=by decide
theorem cN0 (x:F7):(if aT0 (av1 x)then 1 else 0)≤(if aT0 x then 1 else 0):=by
 by_cases h:x.kind=5
 ·rw[db7 h];exact fh0 _
 ·rw[bU3 h,bU4];simp
theorem dH4:∀l:List F7,(aa4 l).countP aT0≤l.countP aT0:=ad1 (fh0 _) fun l x ih=>by
 have hx:=cN0 x
 rw[aD5,List.countP_append,List.countP_singleton]
 unfold ak4
 split
 ·rw[List.countP_append,List.countP_singleton];omega
 ·split
  ·rw[List.countP_append,List.countP_singleton,bo6,bU4]
   have:=bo7 (p:=aT0) (aa4 l) x.of.toNat (av1 x)
   simp only[Bool.false_eq_true,if_false]
   omega
  ·rw[List.countP_append,List.countP_singleton,bU4]
   simp only[Bool.false_eq_true,if_false]
   omega
theorem do6 {t:D5} {l:List ByteArray} (v:F6 t=true) (hl:l.length≤24):
 (∀s∈O0 t l,(A8 s).kind=1)∧(O0 t l).length≤l.length∧Y1 t (O0 t l)=List.replicate (O0 t l).length wOk∧V5 t (O0 t l)=V5 t l∧O0 t (O0 t l)=O0 t l∧
  (∀n,(∀s∈l,s.size≤n)→∀s∈O0 t l,s.size≤n)∧aK1 (O0 t l)≤aK1 l:=by
 have hk:O0 t l=(ai8 t (aa4 (l.map A8))).map (·.text):=by rw[aS9 v hl,bL2]
 have hg:=do3 l
 have hm:=do4 t (aa4 (l.map A8))
 have hr:(O0 t l).map A8=ai8 t (aa4 (l.map A8)):=by
  rw[hk,List.map_map]
  refine(List.map_congr_left (g:=id) fun x hx=> ?_).trans (List.map_id _)
  exact hg x (hm x hx).1 (hm x hx).2
 have h1:∀s∈O0 t l,(A8 s).kind=1:=fun s hs=>by
  rw[hk]at hs
  obtain⟨x,hx,rfl⟩:=List.mem_map.1 hs
  rw[hg x (hm x hx).1 (hm x hx).2]
  exact(hm x hx).2
 have h2:(O0 t l).length≤l.length:=by
  rw[hk,fg5]
  have:=(cm7 t (aa4 (l.map A8))).length_le
  rw[bt8,fg5]at this
  exact this
 have hn:aa4 ((O0 t l).map A8)=ai8 t (aa4 (l.map A8)):=by
  rw[hr,aI7 _ fun x hx=>by have:=(hm x hx).2;omega]
  exact(List.map_congr_left (g:=id) fun x hx=>bj0 (hm x hx).2).trans (List.map_id _)
 obtain⟨a,b,c⟩:=cM9 t (aa4 (l.map A8))
 refine⟨h1,h2, ?_, ?_, ?_, ?_, ?_⟩
 ·rw[ap6 v (by omega),bD8 t _ h1,hr,c,List.map_replicate,←hr,fg5]
  rfl
 ·rw[aK0 v (by omega),aK0 v hl,hn,a]
 ·rw[aS9 v (l:=O0 t l) (by omega),hn,bL2,b,←hk]
 ·intro n hs s h
  rw[hk]at h
  obtain⟨x,hx,rfl⟩:=List.mem_map.1 h
  exact bH5 hs x (hm x hx).1
 ·unfold aK1
  rw[hr]
  exact fh1 ((cm7 t _).countP_le) (dH4 _)
end
section
open Go.RowKit
attribute [local go_sem] j4.drew j4.alloc j4.drewN WB.holds Oper.semAt_some Q9 O1 J7
theorem cD9 (vm vb vt um uo ua lv:Value) (t:D5) (l:List ByteArray) (H:j5) (dr:Doors H) (w:World) (hw:j4 H w) (ht:Twn H vm vb vt um uo ua t) (hl:Sl H lv l):
 Calls Tryz.prog 4 #[ah0 vm vb vt um uo ua t,lv] w (I1 w (.bool true)):=by
 have cW:=fun(H':j5) (W:World) (hW:j4 H' W) (hle:D8 H H')=>aO6 H' (dr.mono hle) W hW
 have cY:=fun(H':j5) (W:World) (hW:j4 H' W) (hle:D8 H H')=>aA3 vm vb vt um uo ua lv t l H' W hW (ht.mono hle) (hl.mono hle)
 replace cW:=fe6 cW
 cases hr:aF8 t l
 ·rw[hr]at cY
  replace cY:=fe6 cY
  clear hr
  go_enter Tryz.func4,Tryz.ntmps4
  go_wp2_with(first|(refine uI7 rfl _ rfl (Ext.refl hw) ?_;intro B w1 H1 hle hx hB hBw;obtain⟨hc0,hc1,hc2,hc3,hc4,O8,hc6,O9⟩:=I5 hB;clear hB hw;have hw1:=hx.holds)|((go_at_call 17;refine(cY.out _ _ hw1 hle).mono ?_;rintro e w2 ⟨rfl,hb2⟩;have x2:=hx.step (hb2.mono hx.below.size) (hw1.below hb2)))|((go_at_call 18;refine(cW.out _ _ x2.holds hle).mono ?_;rintro e w3 ⟨rfl,hb3⟩;have x3:=x2.step (hb3.mono x2.below.size) (x2.holds.below hb3))))
  go_ret
  exact⟨rfl,x3.below⟩
 rw[hr]at cY
 have R:=aL3.1 hr
 obtain⟨q1,q2,q3,q4,q5,q6,q7⟩:=do6 R.v R.n
 have R2:aF8 t (O0 t l)=true:=aL3.2 ⟨R.g,fh1 q2 R.n,fun s hs=>q6 60 R.z s hs,by have:=R.b;omega,R.v⟩
 have hz2:∀s∈O0 t l,s.size≤60:=q6 60 R.z
 have cU:=fun(H':j5) (W:World) (hW:j4 H' W) (hle:D8 H H')=>aD1 vm vb vt um uo ua lv t l R.v R.n (fun s hs=>by have:=R.z s hs;omega) H' (dr.mono hle) W hW (ht.mono hle) (hl.mono hle)
 have cV:=fun(lv:Value) (H':j5) (W:World) (hW:j4 H' W) (hle:D8 H H') (h2:Sl H' lv (O0 t l))=>aD1 vm vb vt um uo ua lv t (O0 t l) R.v (fh1 q2 R.n) (fun s hs=>by have:=hz2 s hs;omega) H' (dr.mono hle) W hW (ht.mono hle) h2
 have cZ:=fun(lv:Value) (H':j5) (W:World) (hW:j4 H' W) (hle:D8 H H') (h2:Sl H' lv (O0 t l))=>aA3 vm vb vt um uo ua lv t (O0 t l) H' W hW (ht.mono hle) h2
 rw[R2]at cZ
 rw[q3,q4,q5]at cV
 have cS:∀(va vb:Value) (xs:List ByteArray) (H':j5) (W:World),j4 H' W→Sl H' va xs→Sl H' vb xs→Calls Tryz.prog 25 #[va,vb] W (I1 W (.bool true)):=fun va vb xs H' W hW h1 h2=>by simpa using bK5 va vb xs xs H' W hW h1 h2
 have kK:∀s∈O0 t l,∀(H':j5) (W:World),j4 H' W→Calls Tryz.prog 16 #[.string s] W (I1 W (.int .i64 1)):=fun s hs H' W hW=>by
  have h:=aI0 s (by have:=hz2 s hs;omega) H' W hW
  rw[q1 s hs]at h
  exact h
 clear hr R R2 q1 q2 q3 q4 q5 q6 q7 hz2
 generalize V5 t l=T at*
 generalize O0 t l=K at*
 generalize Y1 t l=A at*
 obtain⟨al,cl,rfl,_,_⟩:=hl.form
 replace cY:=fe6 cY
 replace cU:=fe6 cU
 replace cV:=fe6 cV
 replace cZ:=fe6 cZ
 replace cS:=fe6 cS
 replace kK:=fe6 kK
 clear hl ht dr
 go_enter Tryz.func4,Tryz.ntmps4
 go_upto_region 4 with(first|(refine uI7 rfl _ rfl (Ext.refl hw) ?_;intro B w1 H1 hle hx hB hBw;obtain⟨hc0,hc1,hc2,hc3,hc4,O8,hc6,O9⟩:=I5 hB;clear hB hw;have hw1:=hx.holds)|(go_at_call 17;refine(cY.out _ _ hw1 hle).mono ?_;rintro e w2 ⟨rfl,hb2⟩;have x2:=hx.step (hb2.mono hx.below.size) (hw1.below hb2);have hw2:=x2.holds)|(go_at_call 23;go_must (refine(cU.out _ _ x2.holds hle).mono ?_);rintro e w3 ⟨_,H3,rfl,y3,va,vt',vk,rfl,sA,⟨xm,xb,xt,xp,xq,xr,rfl,tw3⟩,sK⟩;obtain⟨pA,qA,rfl,_,_⟩:=sA.form;obtain⟨pK,qK,rfl,_,_⟩:=sK.form;obtain⟨p0,pq0,rfl,_,_⟩:=tw3.h.m.form;obtain⟨p1,pq1,rfl,_,_⟩:=tw3.h.b.form;obtain⟨p2,pq2,rfl,_,_⟩:=tw3.h.t.form;obtain⟨p3,pq3,rfl,_,_⟩:=tw3.s.m.form;obtain⟨p4,pq4,rfl,_,_⟩:=tw3.s.o.form;obtain⟨p5,pq5,rfl,_,_⟩:=tw3.s.a.form;have x3:=x2.trans y3))
 have hn_:H3 (World.heap w3).size=none:=(x3).holds.D6 (fh0 _)
 have x4:=((x3).alloc (.cells #[.slice p0 T.h.ms.length pq0,.slice p1 T.h.bs.length pq1,.slice p2 T.h.ts.length pq2,.int .i64 T.h.ch,.slice p3 T.s.mo.length pq3,.slice p4 T.s.wo.length pq4,.slice p5 T.s.wa.length pq5,.int .i64 T.s.fr] 32)).freeze (x3).below.size (heap_alloc_new w3 _)
 have l4:=j5.L9 hn_ (.cells #[.slice p0 T.h.ms.length pq0,.slice p1 T.h.bs.length pq1,.slice p2 T.h.ts.length pq2,.int .i64 T.h.ch,.slice p3 T.s.mo.length pq3,.slice p4 T.s.wo.length pq4,.slice p5 T.s.wa.length pq5,.int .i64 T.s.fr] 32 (0,0))
 have eb6:=j5.G7 H3 (World.heap w3).size (.cells #[.slice p0 T.h.ms.length pq0,.slice p1 T.h.bs.length pq1,.slice p2 T.h.ts.length pq2,.int .i64 T.h.ch,.slice p3 T.s.mo.length pq3,.slice p4 T.s.wo.length pq4,.slice p5 T.s.wa.length pq5,.int .i64 T.s.fr] 32 (0,0))
 clear hn_
 generalize j5.put H3 (World.heap w3).size (.cells #[.slice p0 T.h.ms.length pq0,.slice p1 T.h.bs.length pq1,.slice p2 T.h.ts.length pq2,.int .i64 T.h.ch,.slice p3 T.s.mo.length pq3,.slice p4 T.s.wo.length pq4,.slice p5 T.s.wa.length pq5,.int .i64 T.s.fr] 32 (0,0))=H4 at*
 generalize World.alloc w3 (.cells #[.slice p0 T.h.ms.length pq0,.slice p1 T.h.bs.length pq1,.slice p2 T.h.ts.length pq2,.int .i64 T.h.ch,.slice p3 T.s.mo.length pq3,.slice p4 T.s.wo.length pq4,.slice p5 T.s.wa.length pq5,.int .i64 T.s.fr] 32)=w4 at*
 generalize(World.heap w3).size=C at*
 have l14:D8 H1 H4:=(y3.le x2.holds).trans l4
 replace hle:=hle.trans l14
 have twA:=tw3.mono l4
 replace sK:=sK.mono l4
 obtain⟨d0,d1,d2,d3,d4,d5,d6,d7⟩:=I5 (t:=T) eb6
 replace hc0:=lift l14 hc0
 replace hc1:=lift l14 hc1
 replace hc2:=lift l14 hc2
 replace hc3:=lift l14 hc3
 replace hc4:=lift l14 hc4
 replace O8:=lift l14 O8
 replace hc6:=lift l14 hc6
 replace O9:=lift l14 O9
 have hw4:=x4.holds
 clear x3 y3 x2 hw2 hb2 hw1 hx tw3 sA eb6 l14 l4 cY cU
 go_upto_region 9 with(first|(go_at_call 17;go_must (refine(cZ.out _ _ _ hw4 hle sK).mono ?_);rintro e w5 ⟨rfl,hb5⟩;have x5:=x4.step (hb5.mono x4.below.size) (hw4.below hb5);have hw5:=x5.holds)|(go_at_call 23;go_must (refine(cV.out _ _ _ x5.holds hle sK).mono ?_);rintro e w6 ⟨_,H6,rfl,y6,va,vt',vm',rfl,sO,⟨xm,xb,xt,xp,xq,xr,rfl,tw6⟩,sM⟩;obtain⟨pO,qO,rfl,_,_⟩:=sO.form;obtain⟨pM,qM,rfl,_,_⟩:=sM.form;obtain⟨r0,rq0,rfl,_,_⟩:=tw6.h.m.form;obtain⟨r1,rq1,rfl,_,_⟩:=tw6.h.b.form;obtain⟨r2,rq2,rfl,_,_⟩:=tw6.h.t.form;obtain⟨r3,rq3,rfl,_,_⟩:=tw6.s.m.form;obtain⟨r4,rq4,rfl,_,_⟩:=tw6.s.o.form;obtain⟨r5,rq5,rfl,_,_⟩:=tw6.s.a.form;have x6:=x5.trans y6))
 have hn_:H6 (World.heap w6).size=none:=(x6).holds.D6 (fh0 _)
 have x7:=((x6).alloc (.cells #[.slice r0 T.h.ms.length rq0,.slice r1 T.h.bs.length rq1,.slice r2 T.h.ts.length rq2,.int .i64 T.h.ch,.slice r3 T.s.mo.length rq3,.slice r4 T.s.wo.length rq4,.slice r5 T.s.wa.length rq5,.int .i64 T.s.fr] 32)).freeze (x6).below.size (heap_alloc_new w6 _)
 have l7:=j5.L9 hn_ (.cells #[.slice r0 T.h.ms.length rq0,.slice r1 T.h.bs.length rq1,.slice r2 T.h.ts.length rq2,.int .i64 T.h.ch,.slice r3 T.s.mo.length rq3,.slice r4 T.s.wo.length rq4,.slice r5 T.s.wa.length rq5,.int .i64 T.s.fr] 32 (0,0))
 have eb7:=j5.G7 H6 (World.heap w6).size (.cells #[.slice r0 T.h.ms.length rq0,.slice r1 T.h.bs.length rq1,.slice r2 T.h.ts.length rq2,.int .i64 T.h.ch,.slice r3 T.s.mo.length rq3,.slice r4 T.s.wo.length rq4,.slice r5 T.s.wa.length rq5,.int .i64 T.s.fr] 32 (0,0))
 clear hn_
 generalize j5.put H6 (World.heap w6).size (.cells #[.slice r0 T.h.ms.length rq0,.slice r1 T.h.bs.length rq1,.slice r2 T.h.ts.length rq2,.int .i64 T.h.ch,.slice r3 T.s.mo.length rq3,.slice r4 T.s.wo.length rq4,.slice r5 T.s.wa.length rq5,.int .i64 T.s.fr] 32 (0,0))=H7 at*
 generalize World.alloc w6 (.cells #[.slice r0 T.h.ms.length rq0,.slice r1 T.h.bs.length rq1,.slice r2 T.h.ts.length rq2,.int .i64 T.h.ch,.slice r3 T.s.mo.length rq3,.slice r4 T.s.wo.length rq4,.slice r5 T.s.wa.length rq5,.int .i64 T.s.fr] 32)=w7 at*
 generalize(World.heap w6).size=D at*
 have l47:D8 H4 H7:=(y6.le hw5).trans l7
 replace hle:=hle.trans l47
 have twB:=tw6.mono l7
 replace twA:=twA.mono l47
 replace sK:=sK.mono l47
 replace sO:=sO.mono l7
 replace sM:=sM.mono l7
 obtain⟨g0,g1,g2,g3,g4,g5,g6,g7⟩:=I5 (t:=T) eb7
 replace d0:=lift l47 d0
 replace d1:=lift l47 d1
 replace d2:=lift l47 d2
 replace d3:=lift l47 d3
 replace d4:=lift l47 d4
 replace d5:=lift l47 d5
 replace d6:=lift l47 d6
 replace d7:=lift l47 d7
 have cA:=fun(W:World) (hW:j4 H7 W)=>aU4 _ _ _ _ _ _ _ _ _ _ _ _ T H7 W hW twA twB
 replace cA:=fe6 cA
 have hw7:=x7.holds
 clear x6 y6 x5 x4 hb5 hw4 hw5 tw6 eb7 l47 l7 cZ cV hc0 hc1 hc2 hc3 hc4 O8 hc6 O9 twA twB
 go_upto_region 11 with(first|(go_at_call 24;go_must (refine(cA.out _ hw7).mono ?_);rintro e w8 ⟨rfl,hb8⟩;have x8:=x7.step (hb8.mono x7.below.size) (hw7.below hb8);have hw8:=x8.holds)|(go_at_call 25;go_must (refine(cS.out _ _ K _ _ hw8 sK sM).mono ?_);rintro e w9 ⟨rfl,hb9⟩;have x9:=x8.step (hb9.mono x8.below.size) (hw8.below hb9)))
 have hLO:(List.replicate K.length wOk).length=K.length:=List.length_replicate
 clear x7 hw7 x8 hw8 hb8 hb9 cA cS d0 d1 d2 d3 d4 d5 d6 d7 g0 g1 g2 g3 g4 g5 g6 g7 sM
 have hOk:=G8 (a:=wOk) (l:=[111,107]) rfl
 go_wp2_with fail
 go_loopw [13] (fun i wr=>∃k:Nat,k≤K.length∧i= .int .i64 k∧Ext w H wr H7) (fun i _=>K.length-(intOf i).toNat)
 case atStart=>exact⟨0,fh3 _,rfl,x9⟩
 case round=>
  clear x9
  obtain⟨k,hk,rfl,E5⟩:=hrel
  have hwr:=E5.holds
  by_cases hlk:k<K.length
  ·obtain⟨z,hzk⟩:=At.mk hlk
   obtain⟨b1,o1,c1,hez,hsz,p1⟩:=sK.str hzk
   cases hez
   have hzo:At (List.replicate K.length wOk) k wOk:=by unfold At;rw[List.getElem?_replicate,if_pos hlk]
   obtain⟨b2,o2,c2,hez,_,p2⟩:=sO.str hzo
   cases hez
   have hkd:=fun(W:World) (hW:j4 H7 W)=>kK.out z hzk.mem H7 W hW
   replace hkd:=fe6 hkd
   clear hzk hzo
   go_wp2_with(go_at_call 16;go_must (refine(hkd.out _ hwr).mono ?_);rintro e w9 ⟨rfl,hb9⟩)
   go_roundw
   case rel=>exact⟨k+1,by omega,by go_num,E5.step (hb9.mono E5.below.size) (hwr.below hb9)⟩
   case measure=>simp[intOf];omega
  ·go_wp2_with(go_at_call 18;go_must (refine(cW.out _ _ hwr hle).mono ?_);rintro e w9 ⟨rfl,hb9⟩)
   go_ret
   exact⟨rfl,E5.below.trans (hb9.mono E5.below.size)⟩
end
section
open Go.ChangeShapes Go.WideShapes Go.ChangeAt Go.RowKit
theorem bJ4:ownKnob Tryz.prog.godebug=none:=by kernel_rfl
theorem aS2:laidOutB Tryz.prog=true:=by kernel_rfl
theorem br1 (os:Os) (started:os.Started) (H:Type) (enc:TypeId × Value→H):
 ReturnsInHanded {} Tryz.checked os 4 .any (fun w args=>(Rows.overseerBookSpec.pre enc Tryz.prog Tryz.f4 [] false w args∧laidMetH Tryz.prog aw0 w)∧sizedMet enc Tryz.prog Tryz.f4 (OpenSpec.ofChange Rows.overseerBookSpec) false w args)
  (Rows.overseerBookSpec.post enc Tryz.prog Tryz.f4 false true false false):=by
 refine aG2 (C:=Tryz.checked) (X:=fun w _=>laidMetH Tryz.prog aw0 w) (fun _ _ _ hh h=>h.of_heap hh) bJ4 started (by kernel_rfl) Tryz.func4
  (ChangeSpec.witness_shaped (enc:=enc) (C:=Tryz.checked) (os:=os) (X:=fun w _=>laidMetH Tryz.prog aw0 w) false (bB1 os) #[.agg #[.slice none 0 0,.slice none 0 0,.slice none 0 0,.int .i64 0,.slice none 0 0,.slice none 0 0,.slice none 0 0,.int .i64 0],.slice none 0 0] 8 rfl (aO5 os _) (by kernel_rfl) (by kernel_rfl) (by kernel_rfl) (bm3 os _)) ?_
 intro W base args ds gs before hval0 hW _ hsz hlaid bJ5 _
 have hval:∀(j:Nat) t v,Tryz.f4.params[j]? =some t→args[j]? =some v→Value.okWide Tryz.prog W .any base t v:=hval0
 have hW':=hW
 obtain⟨p,q,hA0,hV,rfl,_,_⟩:=hW
 have hA:DataW.TrodAll enc Tryz.prog W 0 (fun _=>true) true Tryz.f4.params.toList args.toList ds p:=hA0
 have hS:(DataW.weightsEach Tryz.prog (Tryz.f4.params.toList++[]) (ds++gs)).all (·≤reachBytes)=true:=hsz
 rw[Tryz.params4]at hA hval hS
 obtain⟨v0,v1,d0,d1,p0,p1,rfl,rfl,rfl,h0,h1⟩:=trodAll_two hA
 obtain⟨rfl,rfl⟩:=trodVars_none hV
 clear hA0 hval0 hsz
 simp only[List.append_nil]at hW' hS
 have hlt:∀x∈p0++p1,x.block<W.heap.size:=fun x hx=>by simpa using hW'.lt x hx
 have bo3:∀W',Below W.heap.size W W'→DataW.Trod enc Tryz.prog W' 0 (fun b=>decide (b<W.heap.size)) true 32 v0 d0 p0:=fun W' hb=>
  Below.trod aS2 (by kernel_rfl) (of_decide_eq_true (by kernel_rfl)) h0 hb (fun x hx=>hlt x (List.mem_append.2 (.inl hx)))
 have hw0:∀k∈d0.weights Tryz.prog 32,k≤reachBytes:=fun k hk=>by
  simpa using List.all_eq_true.1 hS k (DataW.weights_mem_each (j:=0) rfl rfl k hk)
 have cW7:∀W',Below W.heap.size W W'→DataW.Trod enc Tryz.prog W' 0 (fun b=>decide (b<W.heap.size)) true 33 v1 d1 p1:=fun W' hb=>
  Below.trod aS2 (by kernel_rfl) (of_decide_eq_true (by kernel_rfl)) h1 hb (fun x hx=>hlt x (List.mem_append.2 (.inr hx)))
 have hw1:∀k∈d1.weights Tryz.prog 33,k≤reachBytes:=fun k hk=>by
  simpa using List.all_eq_true.1 hS k (DataW.weights_mem_each (j:=1) rfl rfl k hk)
 obtain⟨_,_,_,_,_,_,t0,rfl,ht0⟩:=aO1 (hval 0 32 v0 rfl rfl) h0 hw0
 obtain⟨a1,l1,c1,rfl⟩:=okWide_slice Tryz.underlying33 (hval 1 33 v1 rfl rfl)
 obtain⟨n1,h1'⟩:=h1
 obtain⟨xs1,hx1⟩:=bo8 (by simpa [Value.cells]using h1') hw1
 refine(cD9 _ _ _ _ _ _ _ t0 xs1 (ad6 W) (bm2 hlaid bJ5) W (aJ9 W) ht0 hx1).mono fun e W' ⟨he,hb⟩=> ?_
 subst he
 refine⟨_,rfl,_,_,_,[],_,[],hW', ?_,trodAll_mk2 (bo3 W' hb) (cW7 W' hb),rfl,hb.frame _,fun h=>by cases h⟩
 exact trodAll_mk1 (shut_bool Tryz.underlying4 _)
theorem bS5:Tryz.prog.inPlace 4=Rows.overseerBookRow.inPlace:=by kernel_rfl
theorem bc8:Tryz.prog.unfollowed 4=true:=by kernel_rfl
theorem bS6:Tryz.prog.varsNamed 4=Rows.overseerBookRow.named:=by kernel_rfl
theorem bS7:Tryz.prog.recurses 4=true:=by rw[Program.recurses_iff,bc8];rfl
theorem br2:joinedFacts Tryz.prog 4 Tryz.f4 Rows.overseerBookSpec Rows.overseerBookRow=true:=by
 unfold joinedFacts
 rw[bS5,bc8,bS6,bS7]
 first|kernel_rfl|decide+kernel
theorem overseerBook_said:Rows.OverseerBookSaid:=
 OpenClaim.holds_of_wide 4 Tryz.f4 rfl rfl rfl rfl rfl rfl rfl ⟨rfl,rfl,rfl,rfl,rfl⟩ rfl rfl rfl rfl rfl (by kernel_rfl) Tryz.func4 br2
  (of_decide_eq_true (by kernel_rfl)) (by unfold Func.isWrapper;first|(rw[if_pos (by decide+kernel)];kernel_rfl)|(rw[if_neg (by decide+kernel)];exact⟨rfl,rfl⟩))
  (fun os started H enc _=>br1 os started H enc)
theorem overseerBook_card:Rows.OverseerBookCardSaid:=
 Claim7.holds_tied_plain_at .later [] [.data,.data,.data,.data,.sentinel,.sentinel,.pinned] true (true,"3a18a216c62359e0f06e1d3014de965bc5ce7d300dd5c1fbe8bd8daf270ca578") true
  overseerBook_said (fun _ h=>by cases h) (by kernel_rfl) (fun _ h=>by cases h) overseerBook_row_tie rfl ⟨rfl,rfl⟩ (by kernel_rfl) rfl
  (fun f fn hf hfn=>by
   obtain rfl:f=4:=Option.some.inj ((show Tryz.prog.funcNamed "flong/flonglaw12.OverseerBook" =some 4 by kernel_rfl).symm.trans hf) |>.symm
   obtain rfl:fn=Tryz.f4:=(Option.some.inj (Tryz.func4.symm.trans hfn)).symm
   exact⟨by kernel_rfl,fun j t ht=>by
    rw[Tryz.params4]at ht
    have hm:t∈[32,33]:=by simpa using Array.mem_of_getElem? ht
    have hall:([32,33].all fun u=> !Tryz.prog.wantsStandIn u)=true:=by kernel_rfl
    exact(show Tryz.prog.wantsStandIn t=false by simpa using List.all_eq_true.1 hall t hm)⟩)
  (by kernel_rfl)
end
end Go.Proofs.YtbliehinagkldaaGreatDoor
