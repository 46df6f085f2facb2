/- Lemmas and the walk of the law OverseerNothing (names and blanks made short by a program). -/
import Derived.Test.YtbliehinagkldaaGreatDoorG19
set_option linter.all false
set_option maxRecDepth 100000
set_option maxHeartbeats 16000000
open Go.Lib renaming hid → fe6
open List renaming setIfInBounds_toArray → fe7, getElem?_cons_zero → fe8, getElem?_cons_succ → fe9, getElem?_toArray → ff0, set_cons_zero → ff1, set_cons_succ → ff2, getD_eq_getElem?_getD → ff3, length_append → ff4, drop_succ_cons → ff5, drop_zero → ff6, length_singleton → ff7, length_cons → ff8, nil_append → ff9, getElem?_eq_getElem → fg0, length_nil → fg1, cons_append → fg2, push_toArray → fg3, length_map → fg5, length_take → fg6, take_of_length_le → fg7
open Array renaming replicate_zero → fg8, replicate_succ → fg9
open Nat renaming le_refl → fh0, le_trans → fh1, zero_le → fh3, lt_of_lt_of_le → fh4, ne_of_lt → fh5, reduceAdd → fh6, reduceSub → fh7
open Int renaming toNat_natCast → fh8
open Bool renaming and_eq_true → fh9
namespace Go.Proofs.YtbliehinagkldaaGreatDoor
section
open Go.RowKit
theorem cc7 {α:Type} [Enc α] (h1:Enc.sz α=1) {H:j5} {y:α} {a:Value} (hy:Enc.rep H y [a]):∀{xs:List α} {cs:List Value} {k:Nat},P6 H xs cs→k<xs.length→
 P6 H (xs.set k y) (cs.set k a)
 |[],_,_,_,hk=>by simp at hk
 |x::xs,cs,k,⟨c1,c2,e,hx,h2⟩,hk=>by
  have hl:=Enc.len hx
  rw[h1]at hl
  match c1,hl with
  |[p],_=>
   subst e
   cases k with
   |zero=>exact⟨[a],c2,rfl,hy,h2⟩
   |succ k=>exact⟨[p],c2.set k a,rfl,hx,cc7 h1 hy h2 (by simpa using hk)⟩
theorem Own.y8 {α:Type} [Enc α] (h1:Enc.sz α=1) {H:j5} {base:Nat} {w:World} {e:TypeId} {v:Value} {xs:List α} {k:Nat} (h:Own H base w e v xs) (hk:k<xs.length):
 ∃g c,v= .slice (some ⟨g,0,none⟩) xs.length c∧base≤g∧H g=none∧g<w.heap.size∧(∃u,w.cell? ⟨g,k,none⟩=some u)∧w.frozen? ⟨g,k,none⟩=false∧
  ∀(y:α) (p:Value),Enc.rep H y [p]→Own H base (w.setCell ⟨g,k,none⟩ p) e v (xs.set k y):=by
 obtain⟨cells,⟨hl,ho⟩,hr,hf,hb⟩:=h
 rcases ho with⟨rfl,hn⟩|⟨g,cap,cur,rfl,hbg,hg,hnc,hcm,hcs,htake⟩
 ·omega
 ·rw[h1,Nat.mul_one]at hl hcs htake
  have hk2:k<cur.size:=by omega
  refine⟨g,cap,rfl,hbg,hf g rfl,(Array.getElem?_eq_some_iff.1 hg).1,⟨cur[k], ?_⟩,by simp[World.frozen?,hg],fun y p hy=> ?_⟩
  ·rw[cell_of_row w g k cur e (0,0) hg];exact Array.getElem?_eq_getElem hk2
  refine⟨_,⟨?_,.inr ⟨g,cap,cur.setIfInBounds k p,by rw[List.length_set],hbg,Q4 hg _,by rw[List.length_set];exact hnc,hcm,by simp[h1,hcs], ?_⟩⟩,cc7 h1 hy hr hk,hf,by rw[List.length_set];exact hb⟩
  ·simp[h1,hl]
  ·rw[List.length_set,h1,Nat.mul_one]
   simp only[Array.toList_setIfInBounds]
   rw[List.take_set,htake]
end
section
open Go.RowKit Go.ChangeShapes Go.WideShapes Go.Deep
theorem aJ9 (w:World):j4 (ad6 w) w:=⟨fun _ _ e=>e⟩
end
section
theorem cz4:∀(s:List UInt8),∀w∈R9 s,∀b∈w,b≠32:=ad1 (fun w hw b hb=>by
 have:w=[]:=by simpa [R9]using hw
 rw[this]at hb;cases hb) fun s c ih w hw b hb=>by
 rw[ap3]at hw
 unfold U7 at hw
 split at hw
 ·rcases List.mem_append.1 hw with h|h
  ·exact ih w h b hb
  ·have:w=[]:=by simpa using h
   rw[this]at hb;cases hb
 ·rename_i hc
  rcases List.mem_append.1 hw with h|h
  ·exact ih w (List.dropLast_subset _ h) b hb
  ·have e:w=(R9 s).getLastD []++[c]:=by simpa using h
   rw[e]at hb
   rcases List.mem_append.1 hb with h2|h2
   ·have hne:=aB3 s
    rw[List.getLastD_eq_getLast?,List.getLast?_eq_some_getLast hne]at h2
    exact ih _ (List.getLast_mem hne) b h2
   ·have:b=c:=by simpa using h2
    rw[this];exact hc
theorem bL1 (s:ByteArray):∀w∈C9 s,∀b∈C8 w,b≠32:=fun w hw b hb=>by
 obtain⟨x,hx,rfl⟩:=List.mem_map.1 hw
 exact cz4 (C8 s) x hx b hb
theorem bD7:∀l:List (List UInt8),l≠[]→(∀w∈l,∀b∈w,b≠32)→R9 (joinL l)=l
 |[],h,_=>absurd rfl h
 |[a],_,h=>aF1 (h a (by simp))
 |a::b::l,_,h=>by
  show R9 (a++32::joinL (b::l))=_
  rw[bi7,aF1 (h a (by simp)),bD7 (b::l) (by simp) fun w hw=>h w (List.mem_cons_of_mem _ hw)]
  rfl
theorem cM6 {l:List ByteArray} (hne:l≠[]) (h:∀w∈l,∀b∈C8 w,b≠32):C9 (J9 l)=l:=by
 rw[aU7]
 unfold C9
 rw[show C8 (J8 (joinL (l.map C8)))=joinL (l.map C8)from rfl,bD7 _ (by simpa using hne) fun w hw b hb=>by
  obtain⟨x,hx,rfl⟩:=List.mem_map.1 hw
  exact h x hx b hb]
 rw[List.map_map,show(J8 ∘ C8)=id from funext fun _=>rfl,List.map_id]
theorem db1 {p:List ByteArray} (hne:p≠[]) (h:∀w∈p,∀b∈C8 w,b≠32) (hk:(A7 p).kind≠0):A8 (J9 p)=A7 p:=by
 unfold A8
 rw[cM6 hne h,bd8 hk]
end
section
theorem db4 {l:List F7} {x:F7} (hk:x.kind≠1) (he:(x.kind=5∨x.kind=6)→at5 l x.of=false):aa4 (l++[x])=aa4 l++[E9]:=by
 rw[aD5]
 unfold ak4
 rw[if_neg hk,if_neg]
 rintro⟨h1,h2⟩
 rw[he h1]at h2;cases h2
theorem ce3 {l:List F7} {n:Int}:at5 l n=true↔0≤n∧n<(l.length:Int)∧(l.getD n.toNat E9).kind=1:=by
 unfold at5;simp[and_assoc]
theorem bO9:A8 ⟨#[]⟩=E9:=by decide
end
section
def ch4 (x:F7):Prop:=x.kind=1→A8 x.text=x
theorem db5:ch4 E9:=fun h=>by cases h
theorem db6 (s:ByteArray):ch4 (A8 s):=fun h=>by rw[(ca2 (.inl h)).1]
theorem do2 (s:ByteArray):ch4 (av1 (A8 s)):=by
 by_cases h:(A8 s).kind=5
 ·obtain⟨a,b,c,e,h1,h2,h3,h4⟩:=ca3 h
  intro _
  rw[h4,(av0 (p:=e) (by omega)).1,db1 h2 (fun w hw=>bL1 s w (by rw[h1];simp[hw])) (by omega)]
 ·rw[bU3 h];exact db5
theorem do3 (l:List ByteArray):∀x∈aa4 (l.map A8),ch4 x:=cF5 db5 (fun x hx _=>by
 obtain⟨s,_,rfl⟩:=List.mem_map.1 hx;exact db6 s) fun x hx=>by
 obtain⟨s,_,rfl⟩:=List.mem_map.1 hx;exact do2 s
def ai8 (t:D5):List F7→List F7
 |[]=>[]
 |x::l=>(if(M8 t x).2 then [x]else [])++ai8 (M8 t x).1 l
theorem eD4 {l m:List F7} (hlen:l.length=m.length) (h:∀k,(l.getD k E9).kind=1↔(m.getD k E9).kind=1) (n:Int):at5 l n=at5 m n:=by
 have a:=ce3 (l:=l) (n:=n)
 have b:=ce3 (l:=m) (n:=n)
 rw[h,hlen]at a
 cases h1:at5 l n with
 |true=>exact(b.2 (a.1 h1)).symm
 |false=>
  cases h2:at5 m n with
  |false=>rfl
  |true=>rw[a.2 (b.1 h2)]at h1;cases h1
theorem ek0 {p r:List F7} {x:F7} (hx:x.kind≠1) (n:Int):at5 (p++x::r) n=at5 (p++E9::r) n:=by
 refine eD4 (by simp) (fun k=> ?_) n
 rw[ff3,ff3]
 rcases Nat.lt_trichotomy k p.length with h|h|h
 ·rw[List.getElem?_append_left h,List.getElem?_append_left h]
 ·rw[List.getElem?_append_right (by omega),List.getElem?_append_right (by omega),h,Nat.sub_self]
  simp only[fe8,Option.getD_some]
  exact⟨fun h=>absurd h hx,fun h=>by cases h⟩
 ·rw[List.getElem?_append_right (by omega),List.getElem?_append_right (by omega)]
  obtain⟨j,hj⟩:∃j,k-p.length=j+1:=⟨k-p.length-1,by omega⟩
  rw[hj,fe9,fe9]
theorem em4 {l m now:List F7} (h:∀n,at5 l n=at5 m n) (x:F7):ak4 l now x=ak4 m now x:=by unfold ak4;rw[h]
theorem em5 {t:D5} {l m now:List F7} (h:∀n,at5 l n=at5 m n) (x:F7):ap9 t l now x=ap9 t m now x:=by unfold ap9;rw[h]
theorem cJ8 {p:List F7} {x:F7} (hx:x.kind≠1) (hr:(x.kind=5∨x.kind=6)→at5 p x.of=false):∀r:List F7,aa4 (p++x::r)=aa4 (p++E9::r):=ad1 (by
 rw[db4 hx hr,db4 (x:=E9) (by decide) (fun h=>by rcases h with h|h<;>cases h)]) fun r y ih=>by
 rw[show p++x::(r++[y])=(p++x::r)++[y]by simp,show p++E9::(r++[y])=(p++E9::r)++[y]by simp,aD5,aD5,ih]
 exact em4 (ek0 hx) y
def aC2 (t:D5) (p:List F7):List F7→List ByteArray
 |[]=>[]
 |x::r=>ap9 t p (aa4 p) x::aC2 t (p++[x]) r
theorem aL8 (t:D5) (x:F7):∀(r p:List F7),aC2 t p (r++[x])=aC2 t p r++[ap9 t (p++r) (aa4 (p++r)) x]
 |[],p=>by simp[aC2]
 |y::r,p=>by
  show _::aC2 t (p++[y]) (r++[x])=_
  rw[aL8 t x r (p++[y])]
  simp[aC2]
theorem cG7 (t:D5) (l:List ByteArray):∀r:List ByteArray,(M6 t (l++r)).ans=(M6 t l).ans++aC2 t (l.map A8) (r.map A8):=ad1 (by simp[aC2]) fun r s ih=>by
 rw[←List.append_assoc,bj1,ih,List.map_append (l₁:=r),List.map_singleton,aL8,List.map_append (l₁:=l),List.append_assoc]
theorem cF6 (t:D5) (l:List ByteArray):(M6 t l).ans.length=l.length:=(ax9 t l).1
theorem eD5 {t:D5} {p:List F7} {x:F7} (hx:x.kind≠1) (hr:(x.kind=5∨x.kind=6)→at5 p x.of=false):∀r:List F7,aC2 t (p++[x]) r=aC2 t (p++[E9]) r:=ad1 rfl fun r y ih=>by
 rw[aL8,aL8,ih]
 simp only[List.append_assoc,List.singleton_append]
 rw[cJ8 hx hr r,em5 (ek0 hx)]
theorem head_ne {a b:ByteArray} (h:(C8 a).head?≠(C8 b).head?):a≠b:=fun e=>h (by rw[e])
theorem eI6 (n:Int):∃b,(Lib.itoa n).head?=some b∧b.toNat≤57:=by
 unfold Lib.itoa
 split
 ·exact⟨45,rfl,by decide⟩
 ·cases hd:Lib.decDigits n.toNat with
  |nil=>exact absurd hd (bt7 _)
  |cons a l=>
   have:=ah8.1 (List.all_eq_true.1 (aU5 n.toNat) a (by rw[hd];simp))
   exact⟨a,rfl,this.2⟩
theorem dj0 {a b:ByteArray} {x y:UInt8} (ha:(C8 a).head?=some x) (hx:x.toNat≤57) (hb:(C8 b).head?=some y) (hy:57<y.toNat):a≠b:=head_ne fun e=>by
 rw[ha,hb]at e
 have:=Option.some.inj e
 subst this;omega
theorem cH1 (n:Int):∃b,(C8 (G6 n)).head?=some b∧b.toNat≤57:=eI6 n
theorem en1 {l:List Int} (h:l≠[]):∃b,(C8 (J9 (l.map G6))).head?=some b∧b.toNat≤57:=by
 rw[aU7]
 cases l with
 |nil=>exact absurd rfl h
 |cons n l=>
  obtain⟨b,h1,h2⟩:=cH1 n
  refine⟨b, ?_,h2⟩
  show(joinL (C8 (G6 n)::(l.map G6).map C8)).head?=_
  cases (l.map G6).map C8 with
  |nil=>exact h1
  |cons c l=>show(C8 (G6 n)++_).head?=_;rw[List.head?_append,h1];rfl
theorem en2 (n e:Int):at1 n e≠ai7:=by
 unfold at1
 split
 ·obtain⟨b,h1,h2⟩:=cH1 n;exact dj0 h1 h2 (y:=119) rfl (by decide)
 ·split<;>decide
theorem eH9 (l:List Int) (e:Int):as3 l e≠ai7:=by
 unfold as3
 split
 ·exact en2 _ _
 ·split
  ·decide
  ·rename_i h;obtain⟨b,h1,h2⟩:=en1 h;exact dj0 h1 h2 (y:=119) rfl (by decide)
theorem ea1 (t:D5) (w:ByteArray) (a:List Int):U6 t w a≠ai7:=by
 unfold U6
 repeat' split
 all_goals first
  |exact en2 _ _
  |exact eH9 _ _
  |(obtain⟨b,h1,h2⟩:=cH1 1;exact dj0 h1 h2 (y:=119) rfl (by decide))
  |(obtain⟨b,h1,h2⟩:=cH1 0;exact dj0 h1 h2 (y:=119) rfl (by decide))
theorem ea3 (was is:List Bool):(C8 (dy4 was is)).head?=some 111:=rfl
theorem eI7:A8 ai7=E9:=by decide
theorem eo9 {t:D5} {l:List F7} {now:List F7} {x:F7} (hg:∀y∈now,ch4 y) (hk:x.kind≠0) (h1:x.kind≠1):ap9 t l now x≠ai7:=by
 unfold ap9
 rw[if_neg hk,if_neg h1]
 split
 ·exact ea1 _ _ _
 ·split
  ·split
   ·exact ea1 _ _ _
   ·decide
  ·split
   ·split
    ·split
     ·rename_i hn
      intro e
      have hlt:x.of.toNat<now.length:=by
       rcases Nat.lt_or_ge x.of.toNat now.length with h|h
       ·exact h
       ·rw[ff3,List.getElem?_eq_none (by omega)]at hn;cases hn
      have hm:now.getD x.of.toNat E9∈now:=by
       rw[ff3,fg0 hlt];exact List.getElem_mem hlt
      have h2:=hg _ hm hn
      rw[e,eI7]at h2
      rw[←h2]at hn;cases hn
     ·decide
    ·decide
   ·split
    ·exact head_ne (by rw[ea3];decide)
    ·decide
theorem eD6 {t:D5} {l:List ByteArray} {n:Int} (v:F6 t=true) (hl:l.length≤24) (h0:0≤n) (hn:n<(l.length:Int)) (hk:(A8 (l.getD n.toNat ⟨#[]⟩)).kind≠1):
 ((A8 (l.getD n.toNat ⟨#[]⟩)).kind=5∨(A8 (l.getD n.toNat ⟨#[]⟩)).kind=6)∧(Y1 t l).getD n.toNat ⟨#[]⟩≠wNo∨
 (((A8 (l.getD n.toNat ⟨#[]⟩)).kind=0↔(Y1 t l).getD n.toNat ⟨#[]⟩=ai7)∧(Y1 t (l.set n.toNat ⟨#[]⟩)).getD n.toNat ⟨#[]⟩=ai7∧
   (Y1 t (l.set n.toNat ⟨#[]⟩)).set n.toNat ((Y1 t l).getD n.toNat ⟨#[]⟩)=Y1 t l∧V5 t l=V5 t (l.set n.toNat ⟨#[]⟩)∧O0 t l=O0 t (l.set n.toNat ⟨#[]⟩)):=by
 obtain⟨k,rfl⟩:∃k:Nat,n=(k:Int):=⟨n.toNat,by omega⟩
 have hkl:k<l.length:=by omega
 rw[fh8]at*
 obtain⟨p,s,r,rfl,rfl⟩:∃p s r,l=p++s::r∧k=p.length:=⟨l.take k,l[k],l.drop (k+1),by rw[←List.drop_eq_getElem_cons hkl,List.take_append_drop],by rw[fg6];omega⟩
 have g1:(p++s::r).getD p.length ⟨#[]⟩=s:=by rw[ff3,List.getElem?_append_right (fh0 _),Nat.sub_self];rfl
 have g2:(p++s::r).set p.length ⟨#[]⟩=p++⟨#[]⟩::r:=by rw[List.set_append_right _ _ (fh0 _),Nat.sub_self];rfl
 rw[g1]at hk ⊢
 rw[g2]
 have hl2:(p++(⟨#[]⟩:ByteArray)::r).length≤24:=by simp at hl ⊢;omega
 rw[ap6 v hl,ap6 v hl2,aK0 v hl,aK0 v hl2,aS9 v hl,aS9 v hl2]
 have ea:∀u:ByteArray,(M6 t (p++u::r)).ans=(M6 t p).ans++ap9 t (p.map A8) (aa4 (p.map A8)) (A8 u)::aC2 t (p.map A8++[A8 u]) (r.map A8):=fun u=>by rw[cG7];rfl
 have eg:∀(u:ByteArray),((M6 t (p++u::r)).ans).getD p.length ⟨#[]⟩=ap9 t (p.map A8) (aa4 (p.map A8)) (A8 u):=fun u=>by
  rw[ea,ff3,List.getElem?_append_right (by rw[cF6];exact fh0 _),cF6,Nat.sub_self];rfl
 rw[eg,eg,ea,ea,bO9]
 have em:∀u:ByteArray,(p++u::r).map A8=p.map A8++A8 u::r.map A8:=fun u=>by simp
 rw[em,em,bO9]
 obtain⟨x,hx⟩:∃x,A8 s=x:=⟨_,rfl⟩
 rw[hx]at hk ⊢
 by_cases hr:(x.kind=5∨x.kind=6)→at5 (p.map A8) x.of=false
 ·right
  refine⟨⟨fun h=>by unfold ap9;rw[if_pos h],fun h=> ?_⟩,rfl, ?_, ?_, ?_⟩
  ·by_cases hk0:x.kind=0
   ·exact hk0
   ·exact absurd h (eo9 (do3 p) hk0 hk)
  ·rw[eD5 hk hr,List.set_append_right _ _ (by rw[cF6];exact fh0 _),cF6,Nat.sub_self];rfl
  ·rw[cJ8 hk hr]
  ·rw[cJ8 hk hr]
 ·left
  have h56:x.kind=5∨x.kind=6:=Classical.byContradiction fun h=>hr fun h2=>absurd h2 h
  have he:at5 (p.map A8) x.of=true:=by
   cases he:at5 (p.map A8) x.of with
   |true=>rfl
   |false=>exact absurd (fun _=>he) hr
  refine⟨h56, ?_⟩
  unfold ap9
  rw[if_neg (by omega),if_neg (by omega),if_neg (by omega),if_neg (by omega),if_neg (by omega),if_pos he]
  exact head_ne (by rw[ea3];decide)
end
section
open Go.RowKit
attribute [local go_sem] j4.drew j4.alloc j4.drewN WB.holds Oper.semAt_some
theorem cb8 (lv:Value) (l:List ByteArray) (n:Nat) (s:ByteArray) (hn:n<l.length) (hl:l.length≤2000000) (hs:s.size≤2000000) (H:j5) (w:World) (hw:j4 H w) (h:Sl H lv l):
 Calls Tryz.prog 21 #[lv,.int .i64 (n:Int),.string s] w (Post w H fun u H'=>Sl H' u (l.set n s)):=by
 obtain⟨a,c,rfl,_,_⟩:=h.form
 have aX9:Hid ((([]:List ByteArray).length+l.length)*Enc.M4 ByteArray≤140737488355328):=by show _≤_;simp only[Enc.M4,fg1];omega
 have aH8:Hid (([]:List ByteArray).length+l.length≤9223372036854775807):=by show _≤_;simp only[fg1];omega
 have hn0:(0:Int)≤(n:Int):=by omega
 have hn1:(n:Int)<(l.length:Int):=by omega
 go_enter Tryz.func21,Tryz.ntmps21
 go_upto_region 2 with(at_builtin;go_must (refine aj2 (w0:=w) (H0:=H) bi0 rfl _ _ rfl ((Ext.refl hw).alloc _) rfl (Own.emptyAt (heap_alloc_new _ _) (fh0 _) (hw.D6 (fh0 _))) rfl h aX9.out aH8.out ?_);intro v3 w3 o3 x3 hw3 g3;rw[ff9]at o3)
 obtain⟨g,c3,rfl,hbg,hgn,hgl,⟨u0,hu0⟩,hfz,hset⟩:=Own.y8 rfl o3 hn
 have o4:=hset s (.string s) ⟨rfl,by omega⟩
 have x4:=x3.setCell (a:=⟨g,n,none⟩) hbg hgn (.string s)
 obtain⟨H4,x5,l5,s5,_⟩:=o4.close x4
 clear hset o3 o4 x4 x3 g3 aX9 aH8
 go_wp2_with fail
 go_ret
 exact⟨_,H4,rfl,x5,s5⟩
end
section
open Go.RowKit
def eh9 (H:j5) (C:Nat) (t:D5):Prop:=∃p0 q0 p1 q1 p2 q2 p3 q3 p4 q4 p5 q5,H C=some (.cells #[.slice p0 t.h.ms.length q0,.slice p1 t.h.bs.length q1,.slice p2 t.h.ts.length q2,.int .i64 t.h.ch,.slice p3 t.s.mo.length q3,.slice p4 t.s.wo.length q4,.slice p5 t.s.wa.length q5,.int .i64 t.s.fr] 32 (0,0))∧
 Twn H (.slice p0 t.h.ms.length q0) (.slice p1 t.h.bs.length q1) (.slice p2 t.h.ts.length q2) (.slice p3 t.s.mo.length q3) (.slice p4 t.s.wo.length q4) (.slice p5 t.s.wa.length q5) t
abbrev aC3 (w:World) (C:Nat) (a b c d e f g h:Value):World:=(((((((w.setCell ⟨C,0,none⟩ a).setCell ⟨C,1,none⟩ b).setCell ⟨C,2,none⟩ c).setCell ⟨C,3,none⟩ d).setCell ⟨C,4,none⟩ e).setCell ⟨C,5,none⟩ f).setCell ⟨C,6,none⟩ g).setCell ⟨C,7,none⟩ h
theorem bq9 {w0 w:World} {H0 H:j5} {C:Nat} (c:J4 w0 H0 C 32 w H Z8) (T:D5) (p0:Option Addr) (q0:Nat) (p1:Option Addr) (q1:Nat) (p2:Option Addr) (q2:Nat) (p3:Option Addr) (q3:Nat) (p4:Option Addr) (q4:Nat) (p5:Option Addr) (q5:Nat):
 w.cell? ⟨C,0,none⟩=some (.slice none 0 0)∧w.cell? ⟨C,1,none⟩=some (.slice none 0 0)∧w.cell? ⟨C,2,none⟩=some (.slice none 0 0)∧w.cell? ⟨C,3,none⟩=some (.int .i64 0)∧w.cell? ⟨C,4,none⟩=some (.slice none 0 0)∧w.cell? ⟨C,5,none⟩=some (.slice none 0 0)∧w.cell? ⟨C,6,none⟩=some (.slice none 0 0)∧w.cell? ⟨C,7,none⟩=some (.int .i64 0)∧(∀i,w.frozen? ⟨C,i,none⟩=false)∧M9 C 32 (aC3 w C (.slice p0 T.h.ms.length q0) (.slice p1 T.h.bs.length q1) (.slice p2 T.h.ts.length q2) (.int .i64 T.h.ch) (.slice p3 T.s.mo.length q3) (.slice p4 T.s.wo.length q4) (.slice p5 T.s.wa.length q5) (.int .i64 T.s.fr)) (.slice p0 T.h.ms.length q0) (.slice p1 T.h.bs.length q1) (.slice p2 T.h.ts.length q2) (.int .i64 T.h.ch) (.slice p3 T.s.mo.length q3) (.slice p4 T.s.wo.length q4) (.slice p5 T.s.wa.length q5) (.int .i64 T.s.fr)∧Ext w0 H0 (aC3 w C (.slice p0 T.h.ms.length q0) (.slice p1 T.h.bs.length q1) (.slice p2 T.h.ts.length q2) (.int .i64 T.h.ch) (.slice p3 T.s.mo.length q3) (.slice p4 T.s.wo.length q4) (.slice p5 T.s.wa.length q5) (.int .i64 T.s.fr)) H:=by
 have r:M9 C 32 w (.slice none 0 0) (.slice none 0 0) (.slice none 0 0) (.int .i64 0) (.slice none 0 0) (.slice none 0 0) (.slice none 0 0) (.int .i64 0):=⟨c.at_⟩
 obtain⟨e0,e1,e2,e3,e4,e5,e6,e7,ef⟩:=r.cells
 exact⟨e0,e1,e2,e3,e4,e5,e6,e7,ef,r.set _ _ _ _ _ _ _ _,Ext.aC3 c.x c.ob c.oH _ _ _ _ _ _ _ _⟩
theorem aW1 {H:j5} {u:Value} {T:D5} (h:bt6 H u T):∃p0 q0 p1 q1 p2 q2 p3 q3 p4 q4 p5 q5,u=ah0 (.slice p0 T.h.ms.length q0) (.slice p1 T.h.bs.length q1) (.slice p2 T.h.ts.length q2) (.slice p3 T.s.mo.length q3) (.slice p4 T.s.wo.length q4) (.slice p5 T.s.wa.length q5) T∧
 Twn H (.slice p0 T.h.ms.length q0) (.slice p1 T.h.bs.length q1) (.slice p2 T.h.ts.length q2) (.slice p3 T.s.mo.length q3) (.slice p4 T.s.wo.length q4) (.slice p5 T.s.wa.length q5) T:=by
 obtain⟨xm,xb,xt,xp,xq,xr,rfl,tw⟩:=h
 obtain⟨p0,q0,rfl,_,_⟩:=tw.h.m.form
 obtain⟨p1,q1,rfl,_,_⟩:=tw.h.b.form
 obtain⟨p2,q2,rfl,_,_⟩:=tw.h.t.form
 obtain⟨p3,q3,rfl,_,_⟩:=tw.s.m.form
 obtain⟨p4,q4,rfl,_,_⟩:=tw.s.o.form
 obtain⟨p5,q5,rfl,_,_⟩:=tw.s.a.form
 exact⟨p0,q0,p1,q1,p2,q2,p3,q3,p4,q4,p5,q5,rfl,tw⟩
end
section
open Go.RowKit
attribute [local go_sem] j4.drew j4.alloc j4.drewN WB.holds Oper.semAt_some Q9 O1 J7
def eD1 (w:World) (H:j5) (t:D5) (l:List ByteArray):Ending→World→Prop:=fun f w'=>∃va vt vb e H',f= .returned (.tuple #[va,vt,vb,.int .i64 e])∧Ext w H w' H'∧Own H' w.heap.size w' 9 va (Y1 t l)∧bt6 H' vt (V5 t l)∧Sl H' vb (O0 t l)∧e=aJ8 t l
theorem Own.fu0 {α:Type} [Enc α] {H H0:j5} {w w0:World} {e:TypeId} {v:Value} {xs:List α} (h:Own H w0.heap.size w e v xs) (hx:Ext w0 H0 w H):
 ∃H',Ext w0 H0 w H'∧D8 H H'∧Sl H' v xs∧(∀b,v.ownBlock≠some b→H' b=H b)∧∀b,v.ownBlock=some b→H' b=w.heap[b]? :=by
 have hlt:=h.lt
 obtain⟨cells,⟨hl,ho⟩,hr,hf,hb⟩:=h
 rcases ho with⟨rfl,hn⟩|⟨g,cap,cur,rfl,hbg,hg,hnc,hcm,hcs,htake⟩
 ·have hx0:xs=[]:=List.eq_nil_of_length_eq_zero hn
  subst hx0
  exact⟨H,hx,D8.refl H,Sl.Y9 H,fun _ _=>rfl,fun b e=>by cases e⟩
 ·have hgH:H g=none:=hf g rfl
  have hle:=j5.L9 hgH (.cells cur e (0,0))
  refine⟨H.put g (.cells cur e (0,0)),⟨hx.below,hx.holds.put hg,fun b hb=>(j5.F3 _ _ (by omega)).trans (hx.same b hb)⟩,hle,⟨some ⟨g,0,none⟩,cap,rfl,hnc,by simp only[maxLen]at hcm;omega,hb, ?_⟩,fun b hb=>j5.F3 _ _ (fun e=>hb (by simp[Value.ownBlock,e])),fun b e=> ?_⟩
  ·refine .inr ⟨g,0,cur,e,(0,0),rfl,j5.G7 _ _ _, ?_, ?_⟩
   ·rw[hcs,Nat.zero_add];exact Nat.mul_le_mul_right _ hnc
   ·rw[ff6,htake];exact hr.mono hle
  ·have hb':g=b:=by simpa [Value.ownBlock]using e
   subst hb'
   rw[j5.G7,hg]
theorem di9 {He H2 HX H4 H5:j5} {base:Nat} {wr W w4 w5:World} {e:TypeId} {v:Value} {xs:List ByteArray} (ja:Own He base wr e v xs) (fA:∀b,v.ownBlock=some b→H2 b=wr.heap[b]?) (hle:D8 H2 HX) (hW:j4 HX W) (k5:j4 HX w5) (x4:Ext W He w4 H4) (y5:Ext w4 H4 w5 H5):
 Own H5 base w5 e v xs∧∀b,v.ownBlock=some b→∃o,HX b=some o:=by
 have key:∀b,v.ownBlock=some b→∃o,HX b=some o∧wr.heap[b]? =some o:=fun b hb=>by
  have hlt:=(ja.lt b hb).2
  have hg:wr.heap[b]? =some wr.heap[b]:=Array.getElem?_eq_getElem hlt
  exact⟨_,hle _ _ ((fA b hb).trans hg),hg⟩
 refine⟨(ja.move fun b hb=> ?_).bg7 fun b hb=> ?_,fun b hb=>⟨_,(key b hb).choose_spec.1⟩⟩
 ·obtain⟨o,h1,h2⟩:=key b hb
  exact(k5.at_ _ _ h1).trans h2.symm
 ·obtain⟨o,h1,h2⟩:=key b hb
  have hlt:=hW.lt h1
  exact((y5.same b (fh4 hlt x4.below.size)).trans (x4.same b hlt)).trans (ja.free b hb)
theorem cG5 {w w5:World} {H H5 HX HS:j5} {R5 B6 DD:Nat} {AN BK:List ByteArray} {bv q0 q1 q2 q3 q4 q5:Option Addr} {cbv m0 m1 m2 m3 m4 m5:Nat} {va:Value} {T:D5} (xS:Ext w H w5 HS) (lS:D8 HS H5) (hRb:w.heap.size≤R5) (rn5:H5 R5=none) (k5:j4 HX w5) (hXR:HX R5=none)
 (r55:M9 R5 32 w5 (.slice none 0 0) (.slice none 0 0) (.slice none 0 0) (.int .i64 0) (.slice none 0 0) (.slice none 0 0) (.slice none 0 0) (.int .i64 0)) (o55:Own H5 w.heap.size w5 9 (.slice bv BK.length cbv) BK) (hXB:HX B6=some (.cells #[.slice bv BK.length cbv] 33 (0,0))) (hXD:HX DD=some (.deferred (some []))) (hDW:w.heap.size≤DD)
 (Q0:Twn HS (.slice q0 T.h.ms.length m0) (.slice q1 T.h.bs.length m1) (.slice q2 T.h.ts.length m2) (.slice q3 T.s.mo.length m3) (.slice q4 T.s.wo.length m4) (.slice q5 T.s.wa.length m5) T) (hX5:D8 HX H5) (hA:Own HS w.heap.size w5 9 va AN∧∀b,va.ownBlock=some b→∃o,HX b=some o):
 ∃HZ,(∀i,((((((((w5.setCell ⟨R5,0,none⟩ (.slice q0 T.h.ms.length m0)).setCell ⟨R5,1,none⟩ (.slice q1 T.h.bs.length m1)).setCell ⟨R5,2,none⟩ (.slice q2 T.h.ts.length m2)).setCell ⟨R5,3,none⟩ (.int .i64 T.h.ch)).setCell ⟨R5,4,none⟩ (.slice q3 T.s.mo.length m3)).setCell ⟨R5,5,none⟩ (.slice q4 T.s.wo.length m4)).setCell ⟨R5,6,none⟩ (.slice q5 T.s.wa.length m5)).setCell ⟨R5,7,none⟩ (.int .i64 T.s.fr)).frozen? ⟨B6,i,none⟩=false)∧((((((((w5.setCell ⟨R5,0,none⟩ (.slice q0 T.h.ms.length m0)).setCell ⟨R5,1,none⟩ (.slice q1 T.h.bs.length m1)).setCell ⟨R5,2,none⟩ (.slice q2 T.h.ts.length m2)).setCell ⟨R5,3,none⟩ (.int .i64 T.h.ch)).setCell ⟨R5,4,none⟩ (.slice q3 T.s.mo.length m3)).setCell ⟨R5,5,none⟩ (.slice q4 T.s.wo.length m4)).setCell ⟨R5,6,none⟩ (.slice q5 T.s.wa.length m5)).setCell ⟨R5,7,none⟩ (.int .i64 T.s.fr)).cell? ⟨B6,0,none⟩=some (.slice bv BK.length cbv)∧((((((((w5.setCell ⟨R5,0,none⟩ (.slice q0 T.h.ms.length m0)).setCell ⟨R5,1,none⟩ (.slice q1 T.h.bs.length m1)).setCell ⟨R5,2,none⟩ (.slice q2 T.h.ts.length m2)).setCell ⟨R5,3,none⟩ (.int .i64 T.h.ch)).setCell ⟨R5,4,none⟩ (.slice q3 T.s.mo.length m3)).setCell ⟨R5,5,none⟩ (.slice q4 T.s.wo.length m4)).setCell ⟨R5,6,none⟩ (.slice q5 T.s.wa.length m5)).setCell ⟨R5,7,none⟩ (.int .i64 T.s.fr)).heap[DD]? =some (.deferred (some []))∧
  (((((((((w5.setCell ⟨R5,0,none⟩ (.slice q0 T.h.ms.length m0)).setCell ⟨R5,1,none⟩ (.slice q1 T.h.bs.length m1)).setCell ⟨R5,2,none⟩ (.slice q2 T.h.ts.length m2)).setCell ⟨R5,3,none⟩ (.int .i64 T.h.ch)).setCell ⟨R5,4,none⟩ (.slice q3 T.s.mo.length m3)).setCell ⟨R5,5,none⟩ (.slice q4 T.s.wo.length m4)).setCell ⟨R5,6,none⟩ (.slice q5 T.s.wa.length m5)).setCell ⟨R5,7,none⟩ (.int .i64 T.s.fr)).putObj DD (.deferred none)).heap[R5]? =some (.cells #[.slice q0 T.h.ms.length m0,.slice q1 T.h.bs.length m1,.slice q2 T.h.ts.length m2,.int .i64 T.h.ch,.slice q3 T.s.mo.length m3,.slice q4 T.s.wo.length m4,.slice q5 T.s.wa.length m5,.int .i64 T.s.fr] 32 (0,0))∧(((((((((w5.setCell ⟨R5,0,none⟩ (.slice q0 T.h.ms.length m0)).setCell ⟨R5,1,none⟩ (.slice q1 T.h.bs.length m1)).setCell ⟨R5,2,none⟩ (.slice q2 T.h.ts.length m2)).setCell ⟨R5,3,none⟩ (.int .i64 T.h.ch)).setCell ⟨R5,4,none⟩ (.slice q3 T.s.mo.length m3)).setCell ⟨R5,5,none⟩ (.slice q4 T.s.wo.length m4)).setCell ⟨R5,6,none⟩ (.slice q5 T.s.wa.length m5)).setCell ⟨R5,7,none⟩ (.int .i64 T.s.fr)).putObj DD (.deferred none)).heap[B6]? =some (.cells #[.slice bv BK.length cbv] 33 (0,0))∧
  Ext w H (((((((((w5.setCell ⟨R5,0,none⟩ (.slice q0 T.h.ms.length m0)).setCell ⟨R5,1,none⟩ (.slice q1 T.h.bs.length m1)).setCell ⟨R5,2,none⟩ (.slice q2 T.h.ts.length m2)).setCell ⟨R5,3,none⟩ (.int .i64 T.h.ch)).setCell ⟨R5,4,none⟩ (.slice q3 T.s.mo.length m3)).setCell ⟨R5,5,none⟩ (.slice q4 T.s.wo.length m4)).setCell ⟨R5,6,none⟩ (.slice q5 T.s.wa.length m5)).setCell ⟨R5,7,none⟩ (.int .i64 T.s.fr)).putObj DD (.deferred none)) HZ∧Own HZ w.heap.size (((((((((w5.setCell ⟨R5,0,none⟩ (.slice q0 T.h.ms.length m0)).setCell ⟨R5,1,none⟩ (.slice q1 T.h.bs.length m1)).setCell ⟨R5,2,none⟩ (.slice q2 T.h.ts.length m2)).setCell ⟨R5,3,none⟩ (.int .i64 T.h.ch)).setCell ⟨R5,4,none⟩ (.slice q3 T.s.mo.length m3)).setCell ⟨R5,5,none⟩ (.slice q4 T.s.wo.length m4)).setCell ⟨R5,6,none⟩ (.slice q5 T.s.wa.length m5)).setCell ⟨R5,7,none⟩ (.int .i64 T.s.fr)).putObj DD (.deferred none)) 9 va AN∧Twn HZ (.slice q0 T.h.ms.length m0) (.slice q1 T.h.bs.length m1) (.slice q2 T.h.ts.length m2) (.slice q3 T.s.mo.length m3) (.slice q4 T.s.wo.length m4) (.slice q5 T.s.wa.length m5) T∧Sl HZ (.slice bv BK.length cbv) BK:=by
 obtain⟨oA,hAX⟩:=hA
 have fd8:∀b,H5 b=none→HS b=none:=fun b h=>by
  cases e:HS b with
  |none=>rfl
  |some o=>rw[lS b o e]at h;cases h
 have hx8:=Ext.aC3 xS hRb (fd8 _ rn5) (.slice q0 T.h.ms.length m0) (.slice q1 T.h.bs.length m1) (.slice q2 T.h.ts.length m2) (.int .i64 T.h.ch) (.slice q3 T.s.mo.length m3) (.slice q4 T.s.wo.length m4) (.slice q5 T.s.wa.length m5) (.int .i64 T.s.fr)
 have hk8:=M9.setH k5 hXR (.slice q0 T.h.ms.length m0) (.slice q1 T.h.bs.length m1) (.slice q2 T.h.ts.length m2) (.int .i64 T.h.ch) (.slice q3 T.s.mo.length m3) (.slice q4 T.s.wo.length m4) (.slice q5 T.s.wa.length m5) (.int .i64 T.s.fr)
 have rz:=r55.set (.slice q0 T.h.ms.length m0) (.slice q1 T.h.bs.length m1) (.slice q2 T.h.ts.length m2) (.int .i64 T.h.ch) (.slice q3 T.s.mo.length m3) (.slice q4 T.s.wo.length m4) (.slice q5 T.s.wa.length m5) (.int .i64 T.s.fr)
 have by0:=o55.P8 r55.at_ (by decide)
 have oz:=((((((((o55.setCell (a:=⟨R5,0,none⟩) by0 (.slice q0 T.h.ms.length m0)).setCell (a:=⟨R5,1,none⟩) by0 (.slice q1 T.h.bs.length m1)).setCell (a:=⟨R5,2,none⟩) by0 (.slice q2 T.h.ts.length m2)).setCell (a:=⟨R5,3,none⟩) by0 (.int .i64 T.h.ch)).setCell (a:=⟨R5,4,none⟩) by0 (.slice q3 T.s.mo.length m3)).setCell (a:=⟨R5,5,none⟩) by0 (.slice q4 T.s.wo.length m4)).setCell (a:=⟨R5,6,none⟩) by0 (.slice q5 T.s.wa.length m5)).setCell (a:=⟨R5,7,none⟩) by0 (.int .i64 T.s.fr))
 have hab:∀b,va.ownBlock=some b→(Value.slice bv BK.length cbv).ownBlock≠some b:=fun b h1 h2=>by
  obtain⟨o,ho⟩:=hAX b h1
  have:=o55.free b h2
  rw[hX5 _ _ ho]at this;cases this
 have ozA:=((((((((oA.setCell (a:=⟨R5,0,none⟩) (oA.P8 r55.at_ (by decide)) (.slice q0 T.h.ms.length m0)).setCell (a:=⟨R5,1,none⟩) (oA.P8 r55.at_ (by decide)) (.slice q1 T.h.bs.length m1)).setCell (a:=⟨R5,2,none⟩) (oA.P8 r55.at_ (by decide)) (.slice q2 T.h.ts.length m2)).setCell (a:=⟨R5,3,none⟩) (oA.P8 r55.at_ (by decide)) (.int .i64 T.h.ch)).setCell (a:=⟨R5,4,none⟩) (oA.P8 r55.at_ (by decide)) (.slice q3 T.s.mo.length m3)).setCell (a:=⟨R5,5,none⟩) (oA.P8 r55.at_ (by decide)) (.slice q4 T.s.wo.length m4)).setCell (a:=⟨R5,6,none⟩) (oA.P8 r55.at_ (by decide)) (.slice q5 T.s.wa.length m5)).setCell (a:=⟨R5,7,none⟩) (oA.P8 r55.at_ (by decide)) (.int .i64 T.s.fr))
 have hb8:=hk8.at_ _ _ hXB
 have hd8:=hk8.at_ _ _ hXD
 generalize((((((((w5.setCell ⟨R5,0,none⟩ (.slice q0 T.h.ms.length m0)).setCell ⟨R5,1,none⟩ (.slice q1 T.h.bs.length m1)).setCell ⟨R5,2,none⟩ (.slice q2 T.h.ts.length m2)).setCell ⟨R5,3,none⟩ (.int .i64 T.h.ch)).setCell ⟨R5,4,none⟩ (.slice q3 T.s.mo.length m3)).setCell ⟨R5,5,none⟩ (.slice q4 T.s.wo.length m4)).setCell ⟨R5,6,none⟩ (.slice q5 T.s.wa.length m5)).setCell ⟨R5,7,none⟩ (.int .i64 T.s.fr))=w8 at*
 obtain⟨HF,hxF,hFD,hFo⟩:=hx8.am3 hDW hd8 (.deferred none)
 have flat:∀b cs t fr,HS b=some (.cells cs t fr)→HF b=some (.cells cs t fr):=fun b cs t fr e=>by
  have hb:b≠DD:=fun e'=>by
   have e2:=lS _ _ e
   rw[e',hX5 _ _ hXD]at e2;cases e2
  rw[hFo b hb];exact e
 have hnF:∀b,HS b=none→HF b=none:=fun b h=>by
  by_cases hbd:b=DD
  ·rw[hbd];exact hFD
  ·rw[hFo b hbd];exact h
 have oF:=(oz.am3 (o':= .deferred none) hd8 rfl).bg7 (fun b hb=>hnF b (fd8 b (o55.free b hb)))
 obtain⟨HZ,hxZ,lZ,sZ,nZ⟩:=oF.close hxF
 have oAZ:=(ozA.am3 (o':= .deferred none) hd8 rfl).bg7 (fun b hb=>(nZ b (hab b hb)).trans (hnF b (oA.free b hb)))
 have ez8:R5≠DD:=fun e=>by
  have h:=rz.at_
  rw[e,hd8]at h;cases h
 have ez9:B6≠DD:=fun e=>by rw[e,hd8]at hb8;cases hb8
 exact⟨HZ,fun i=>Lib.frozen_of_heap hb8 i,by rw[Lib.cell_of_heap hb8];rfl,hd8,(World.putObj_heap_other ez8).trans rz.at_,(World.putObj_heap_other ez9).trans hb8,hxZ,oAZ,(Q0.aK7 flat).mono lZ,sZ⟩
theorem eY8 (vm vb vt um uo ua lv:Value) (t:D5) (l:List ByteArray) (hsz:∀s∈l,s.size≤900) (H:j5) (dr:Doors H) (w:World) (hw:j4 H w) (ht:Twn H vm vb vt um uo ua t) (hs:Sl H lv l):
 Calls Tryz.prog 50 #[ah0 vm vb vt um uo ua t,lv] w (eD1 w H t l):=by
 have hck:=fun(H':j5) (W:World) (hW:j4 H' W) (hle:D8 H H')=>bi6 vm vb vt um uo ua t H' W hW (ht.mono hle)
 have hdo:=fun(He:j5) (W:World) (D:Nat) (rv:Value) (recs:List Rec) (d:L8 He w.heap.size W D vm vb vt um uo ua rv t recs)=> @dW4 He w.heap.size W D vm vb vt um uo ua rv t recs d
 obtain⟨ax,cx,rfl,_,_⟩:=hs.form
 obtain⟨a0,c0,rfl,_,_⟩:=ht.h.m.form
 obtain⟨a1,c1,rfl,_,_⟩:=ht.h.b.form
 obtain⟨a2,c2,rfl,_,_⟩:=ht.h.t.form
 obtain⟨a3,c3,rfl,_,_⟩:=ht.s.m.form
 obtain⟨a4,c4,rfl,_,_⟩:=ht.s.o.form
 obtain⟨a5,c5,rfl,_,_⟩:=ht.s.a.form
 replace hck:=fe6 hck
 replace hdo:=fe6 hdo
 refine Calls.aw5 (r:=none) (n:=3) (callsIn_of_wp_marks Tryz.func50 rfl trivial (wpIn_wide.2 ?_) rfl)
 simp only[Tryz.ntmps50,List.size_toArray,ff8,fg1,fh6,fh7,fg9,fg8,fg3,List.append_toArray,ff9,fg2]
 go_upto_region 1 with(refine af8 rfl _ rfl (Ext.refl hw) ?_;intro B w1 H1 hle hx hB hBw;obtain⟨hc0,hc1,hc2,hc3,hc4,O8,hc6,O9⟩:=I5 hB;clear hB hw;have hw1:=hx.holds)
 have r5:M9 w1.heap.size 32 ((w1.alloc (.cells #[.slice none 0 0,.slice none 0 0,.slice none 0 0,.int .i64 0,.slice none 0 0,.slice none 0 0,.slice none 0 0,.int .i64 0] 32)).alloc (.cells #[.slice none 0 0] 33)) (.slice none 0 0) (.slice none 0 0) (.slice none 0 0) (.int .i64 0) (.slice none 0 0) (.slice none 0 0) (.slice none 0 0) (.int .i64 0):=⟨(heap_alloc_old _ _ (by rw[World.size_alloc];omega)).trans (heap_alloc_new w1 _)⟩
 have hbz:=heap_alloc_new (w1.alloc (.cells #[.slice none 0 0,.slice none 0 0,.slice none 0 0,.int .i64 0,.slice none 0 0,.slice none 0 0,.slice none 0 0,.int .i64 0] 32)) (.cells #[.slice none 0 0] 33)
 have x2:=(hx.alloc (.cells #[.slice none 0 0,.slice none 0 0,.slice none 0 0,.int .i64 0,.slice none 0 0,.slice none 0 0,.slice none 0 0,.int .i64 0] 32)).alloc (.cells #[.slice none 0 0] 33)
 rw[World.size_alloc]at hbz
 have hRb:w.heap.size≤w1.heap.size:=hx.below.size
 have hBb:w.heap.size≤w1.heap.size+1:=by omega
 have hRn:H1 w1.heap.size=none:=hw1.D6 (fh0 _)
 have hBn:H1 (w1.heap.size+1)=none:=hw1.D6 (by omega)
 have hRB:w1.heap.size≠w1.heap.size+1:=by omega
 generalize eA0:(w1.alloc (.cells #[.slice none 0 0,.slice none 0 0,.slice none 0 0,.int .i64 0,.slice none 0 0,.slice none 0 0,.slice none 0 0,.int .i64 0] 32)).alloc (.cells #[.slice none 0 0] 33)=w2 at*
 generalize hB6:w1.heap.size+1=B6 at*
 generalize w1.heap.size=R5 at*
 clear eA0 hB6 hx
 have hw2:=x2.holds
 go_upto_region 2 with(go_at_call 48;refine(hck.out _ _ hw2 hle).mono ?_;rintro e w3 ⟨rfl,hb3⟩)
 replace x2:=x2.step (hb3.mono x2.below.size) (hw2.below hb3)
 replace r5:=r5.below hb3 r5.lt
 have hB2:=(Array.getElem?_eq_some_iff.1 hbz).1
 replace hbz:=(hb3.block B6 hB2).trans hbz
 clear hw2 hb3 hB2 hck hw1
 have hw3:=x2.holds
 cases hv:F6 t with
 |false=>
  have hE0:aJ8 t l=120:=by unfold aJ8;rw[hv];rfl
  obtain⟨q1,q2,q3⟩:=cw2 hE0 (by decide)
  replace q1:=fe6 q1
  replace q2:=fe6 q2
  replace q3:=fe6 q3
  replace hE0:=fe6 hE0
  have he:aH2 false=120:=rfl
  obtain⟨z0,z1,z2,z3,z4,z5,z6,z7,zf⟩:=r5.cells
  have zb:w3.cell? ⟨B6,0,none⟩=some (.slice none 0 0):=by simp[World.cell?,hbz]
  have zg:∀i,w3.frozen? ⟨B6,i,none⟩=false:=fun i=>Lib.frozen_of_heap hbz i
  go_wp2_with fail
  have rz:=r5.set (.slice none 0 0) (.slice none 0 0) (.slice none 0 0) (.int .i64 0) (.slice none 0 0) (.slice none 0 0) (.slice none 0 0) (.int .i64 0)
  have xz:=Ext.aC3 x2 hRb hRn (.slice none 0 0) (.slice none 0 0) (.slice none 0 0) (.int .i64 0) (.slice none 0 0) (.slice none 0 0) (.slice none 0 0) (.int .i64 0)
  have dx1:=(bw0 (W:=w3) (S:=R5) (D:=B6) (Ne.symm hRB) (.slice none 0 0) (.slice none 0 0) (.slice none 0 0) (.int .i64 0) (.slice none 0 0) (.slice none 0 0) (.slice none 0 0) (.int .i64 0)).trans hbz
  refine⟨_,av2 rfl _ _ R5 B6 32 _ (0,0) _ (.slice none 0 0) rfl rfl ((heap_setCell_other _ ⟨B6,0,none⟩ R5 _ hRB).trans rz.at_) (by rw[Lib.cell_of_heap (M7 dx1 _)];rfl) Tryz.underlying32 rfl (by kernel_rfl) (by kernel_rfl), ?_⟩
  exact⟨_,_,_,_,H1,rfl,xz.setCell (a:=⟨B6,0,none⟩) hBb hBn _,by rw[q1.out];exact Own.nil _ _ _ _,by rw[q2.out];exact⟨_,_,_,_,_,_,rfl,cu8 H1⟩,by rw[q3.out];exact Sl.Y9 H1,hE0.out.symm⟩
 |true=>
  have he:aH2 true=0:=rfl
  by_cases hlen:24<l.length
  ·have hE0:aJ8 t l=2:=by unfold aJ8;rw[hv,if_pos rfl,if_pos hlen]
   obtain⟨q1,q2,q3⟩:=cw2 hE0 (by decide)
   replace q1:=fe6 q1
   replace q2:=fe6 q2
   replace q3:=fe6 q3
   replace hE0:=fe6 hE0
   obtain⟨z0,z1,z2,z3,z4,z5,z6,z7,zf⟩:=r5.cells
   have zb:w3.cell? ⟨B6,0,none⟩=some (.slice none 0 0):=by simp[World.cell?,hbz]
   have zg:∀i,w3.frozen? ⟨B6,i,none⟩=false:=fun i=>Lib.frozen_of_heap hbz i
   have hlI:(24:Int)<(l.length:Int):=by omega
   go_wp2_with fail
   have rz:=r5.set (.slice none 0 0) (.slice none 0 0) (.slice none 0 0) (.int .i64 0) (.slice none 0 0) (.slice none 0 0) (.slice none 0 0) (.int .i64 0)
   have xz:=Ext.aC3 x2 hRb hRn (.slice none 0 0) (.slice none 0 0) (.slice none 0 0) (.int .i64 0) (.slice none 0 0) (.slice none 0 0) (.slice none 0 0) (.int .i64 0)
   have dx1:=(bw0 (W:=w3) (S:=R5) (D:=B6) (Ne.symm hRB) (.slice none 0 0) (.slice none 0 0) (.slice none 0 0) (.int .i64 0) (.slice none 0 0) (.slice none 0 0) (.slice none 0 0) (.int .i64 0)).trans hbz
   refine⟨_,av2 rfl _ _ R5 B6 32 _ (0,0) _ (.slice none 0 0) rfl rfl ((heap_setCell_other _ ⟨B6,0,none⟩ R5 _ hRB).trans rz.at_) (by rw[Lib.cell_of_heap (M7 dx1 _)];rfl) Tryz.underlying32 rfl (by kernel_rfl) (by kernel_rfl), ?_⟩
   exact⟨_,_,_,_,H1,rfl,xz.setCell (a:=⟨B6,0,none⟩) hBb hBn _,by rw[q1.out];exact Own.nil _ _ _ _,by rw[q2.out];exact⟨_,_,_,_,_,_,rfl,cu8 H1⟩,by rw[q3.out];exact Sl.Y9 H1,hE0.out.symm⟩
  ·have hlI:¬(24:Int)<(l.length:Int):=by omega
   have bn6:l.length≤24:=by omega
   go_upto_region 7 with fail
   have j0:aN4 w H1 R5 B6 w3.heap.size (.slice a0 t.h.ms.length c0) (.slice a1 t.h.bs.length c1) (.slice a2 t.h.ts.length c2) (.slice a3 t.s.mo.length c3) (.slice a4 t.s.wo.length c4) (.slice a5 t.s.wa.length c5) t l 0 H1 (.slice none 0 0) (.slice none 0 0) (w3.alloc (.cells #[.slice a0 t.h.ms.length c0,.slice a1 t.h.bs.length c1,.slice a2 t.h.ts.length c2,.int .i64 t.h.ch,.slice a3 t.s.mo.length c3,.slice a4 t.s.wo.length c4,.slice a5 t.s.wa.length c5,.int .i64 t.s.fr,.slice none 0 0] 137)):=
    ⟨⟨hw3.alloc _,heap_alloc_new w3 _,hw3.D6 (fh0 _),ht.mono hle,Own.nil _ _ _ _,by simp[I6]⟩,Own.nil _ _ _ _,⟨(heap_alloc_old w3 _ r5.lt).trans r5.at_⟩,hRn,(heap_alloc_old w3 _ (Array.getElem?_eq_some_iff.1 hbz).1).trans hbz,hBn,x2.below.alloc x2.below.size _,fun _ _=>rfl,D8.refl _,x2.below.size⟩
   have hs1:=hs.mono hle
   generalize w3.alloc (.cells #[.slice a0 t.h.ms.length c0,.slice a1 t.h.bs.length c1,.slice a2 t.h.ts.length c2,.int .i64 t.h.ch,.slice a3 t.s.mo.length c3,.slice a4 t.s.wo.length c4,.slice a5 t.s.wa.length c5,.int .i64 t.s.fr,.slice none 0 0] 137)=w4 at*
   generalize w3.heap.size=D at*
   have dj8:=x2.same
   clear x2 r5 hbz hw3
   go_wp2_with fail
   go_loopw [4,28] (fun v i wr=>∃(k:Nat) (He:j5) (rv:Value),k≤l.length∧i= .int .i64 (k:Int)∧aN4 w H1 R5 B6 D (.slice a0 t.h.ms.length c0) (.slice a1 t.h.bs.length c1) (.slice a2 t.h.ts.length c2) (.slice a3 t.s.mo.length c3) (.slice a4 t.s.wo.length c4) (.slice a5 t.s.wa.length c5) t l k He rv v wr) (fun _ i _=>l.length-(intOf i).toNat)
   case atStart=>exact⟨0,H1,_,fh3 _,rfl,j0⟩
   case round=>
    clear j0
    obtain⟨k,He,rv,hk,rfl,j⟩:=hrel
    have hk0:(0:Int)≤(k:Int):=by omega
    by_cases hlk:k<l.length
    ·obtain⟨s,hsk⟩:=At.mk hlk
     obtain⟨b,o,c,hse,hss,rs⟩:=hs1.str hsk
     cases hse
     have hk1:(k:Int)<(l.length:Int):=by omega
     have hwr:=j.d.h
     have rs':=lift j.le rs
     have eA1:=hsz s hsk.mem
     have hrl:=ce0 (M6 t (l.take k)).written (M6 t (l.take k)).now k
     have cV7:=hdo.out He wr D rv _ j.d hv (dr.mono (hle.trans j.le)) (by omega) (dw2 (by omega)) j.x.size (k:Int) ⟨by omega,by omega⟩ s eA1
     have aC6:(doS t (I6 (M6 t (l.take k)).written (M6 t (l.take k)).now k) (k:Int) (A8 s)).size≤100000:=by
      have h1:=cu0 (aU2 t (l.take k)) t (A8 s)
      rw[j.dW5 hk]at h1
      rw[h1]
      exact dh9 (fun s hs=>hsz s (List.mem_of_mem_take hs)) (by rw[fg6];omega) s
     have hst:=fun(He':j5) (rv' v7:Value) (w' w7:World) (o:Obj) (v:Value) (jj:aN4 w H1 R5 B6 D (.slice a0 t.h.ms.length c0) (.slice a1 t.h.bs.length c1) (.slice a2 t.h.ts.length c2) (.slice a3 t.s.mo.length c3) (.slice a4 t.s.wo.length c4) (.slice a5 t.s.wa.length c5) t l k He rv v wr)=> @aN4.step w wr w' w7 H1 He He' R5 B6 D k _ _ _ _ _ _ rv rv' v v7 t l s o jj hsk
     have hal:(M6 t (l.take k)).ans.length≤100:=by rw[(ax9 t _).1,fg6];omega
     replace hst:=fe6 hst
     replace cV7:=fe6 cV7
     obtain⟨S,hS⟩:∃S,doS t (I6 (M6 t (l.take k)).written (M6 t (l.take k)).now k) (k:Int) (A8 s)=S:=⟨_,rfl⟩
     rw[hS]at cV7 hst aC6
     clear hS
     have aX9:Hid (((M6 t (l.take k)).ans.length+1)*Enc.M4 ByteArray≤140737488355328):=by show _*16≤_;omega
     have aH8:Hid ((M6 t (l.take k)).ans.length+1≤9223372036854775807):=by show _≤_;omega
     have hrep:Hid (S.size≤140737488355328):=fh1 aC6 (by decide)
     obtain⟨av,cv,rfl,_,_⟩:=j.a.form
     go_wp2_with(first
      |(have hgd:=d5;at_builtin;go_must (refine au7 (c:=1) (cs:=[.string S]) bi0 rfl _ _ rfl rfl (j.mid on5 hs5) rfl (show Enc.rep He5 S [.string S]from⟨rfl,hrep.out⟩) d5.h aX9.out aH8.out (fh1 j.x.size on5.b.size) ?_);intro v7 w7 o7 g7 hw7 _;have j7:=hst.out _ _ _ _ _ _ _ j on5 hs5 d5 o7 g7 hw7;obtain⟨a7,c7,rfl,_,_⟩:=o7.form)
      |(go_at_call 76;refine cV7.out.mono ?_;rintro e w5 ⟨He5,rv5,rfl,on5,hs5,d5⟩))
     go_roundw
     case rel=>exact⟨k+1,He5,rv5,hlk,by go_num,by rw[ff4]at j7;exact j7⟩
     case measure=>simp[intOf];omega
    ·have hke:k=l.length:=by omega
     have hk1:¬(k:Int)<(l.length:Int):=by omega
     subst hke
     have htk:l.take l.length=l:=List.take_length
     have jd:=j.d
     have ja:=j.a
     rw[htk]at jd ja
     obtain⟨⟨nR1,nR2⟩,⟨nB1,nB2⟩,⟨nv1,nv2,nv3⟩,nv4⟩:=j.rows
     have jx:Ext w H wr He:=⟨j.x,jd.h,fun b hb=>(j.same b hb).trans (dj8 b hb)⟩
     have jr:=j.r
     have jb:=j.b
     have jrn:=j.rn
     have jbn:=j.bn
     have jle:=j.le
     have jD:=j.dB
     clear j
     have cw4:Hid (Y1 t l=(M6 t l).ans):=by show _=_;unfold Y1;rw[if_pos (aI8 hv bn6)]
     have cw5:Hid (aJ8 t l=0):=aI8 hv bn6
     have hnl:(M6 t l).now.length=l.length:=(ax9 t l).2.2
     have bR4:Hid (O0 t l=R3 (U4 t (ahead (I6 (M6 t l).written (M6 t l).now l.length) (l.length:Int)))):=by
      show _=_
      have:=dh4 (aU2 t l) t (line:=(l.length:Int)) (by rw[hnl];exact Int.le_refl _)
      rw[hnl]at this
      unfold O0
      rw[if_pos (aI8 hv bn6),←this];rfl
     have bR5:Hid (V5 t l=U8 t (ahead (I6 (M6 t l).written (M6 t l).now l.length) (l.length:Int))):=by
      show _=_
      have:=bw7 (aU2 t l) t (line:=(l.length:Int)) (by omega)
      rw[hnl,fh8,fg7 (Nat.le_of_eq hnl)]at this
      unfold V5
      rw[if_pos (aI8 hv bn6),this]
     have hrl:=ce0 (M6 t l).written (M6 t l).now l.length
     have hrz:=fe6 (di1 (t:=t) hsz (k:=l.length))
     obtain⟨av,cv,rfl,_,_⟩:=ja.form
     obtain⟨H2,x2,l2,bJ2,o2,fA⟩:=ja.fu0 jx
     generalize(M6 t l).ans=AN at*
     generalize I6 (M6 t l).written (M6 t l).now l.length=recs at*
     have d2:=jd.snap x2.holds l2 ((o2 D nv1).trans jd.nD) (fun b hb=>(o2 b (fun e=>nv4 b e hb)).trans (jd.own.free b hb))
     have rn2:H2 R5=none:=(o2 R5 nv2).trans jrn
     have bn2:H2 B6=none:=(o2 B6 nv3).trans jbn
     obtain⟨HP,hwP,al1,hDP,hRP,hPo,hPr⟩:=d2.ey0
     have rnP:HP R5=none:=(hPo R5 nR1 nR2).trans rn2
     have bnP:HP B6=none:=(hPo B6 nB1 nB2).trans bn2
     have xP:Ext w H wr HP:=⟨x2.below,hwP,fun b hb=>(hPo b (by omega) (fun e=>by have:=(jd.own.lt b e).1;omega)).trans (x2.same b hb)⟩
     have hgo:=fe6 (bI5 _ _ _ _ _ _ rv t recs (l.length:Int) hv D H2 HP wr hwP al1 d2.t hDP hRP (by omega))
     have i0:ak2 w.heap.size B6 HP wr (.slice none 0 0) (R3 []):=⟨⟨jb,bnP,hBb⟩,Own.nil _ _ _ _⟩
     have hgl:(U4 t (ahead recs (l.length:Int))).length≤1000:=by rw[bv9];exact fh1 (bw1 _ _) (by omega)
     have dr2:Doors H2:=dr.mono ((hle.trans jle).trans l2)
     have hT9:=aF3 hv (ahead recs (l.length:Int))
     have jdh:=fe6 jd
     have jah:=fe6 ja
     have fAh:=fe6 fA
     have jsm:=fe6 jx.same
     have l2h:=fe6 l2
     clear fA bJ2
     clear jd ja nv1 nv2 nv3 nv4 o2 x2 hs1 dj8 jx jbn jrn
     have rr5:=jr
     have hBlt:=(Array.getElem?_eq_some_iff.1 jb).1
     go_wp2_with(go_at_call 77;refine hgo.out.mono ?_;rintro e w2 ⟨lb,HG,rfl,xG,hit⟩)
     have hw2:=xG.holds
     have si0:ak2 w.heap.size B6 HG w2 (.slice none 0 0) (R3 []):=(i0.below hwP xG.below).snap ((xG.same B6 hBlt).trans bnP) (fun k e=>by cases e)
     have rG:=jr.below xG.below jr.lt
     have rnG:HG R5=none:=(xG.same R5 jr.lt).trans rnP
     have xG2:=xP.trans xG
     have lPG:=xG.le hwP
     have hs2:w.heap.size≤w2.heap.size:=xG2.below.size
     clear i0 hgo jb jr rr5
     refine(wpIn_wide (n:=3)).1 (at6 (k:=3) (H:=HG) rfl (enters_of Tryz.func126 (by kernel_rfl) rfl) hw2 hit (fun _ _ _ ⟨_,e,_⟩=>by rw[e];rfl) (fun _ _ _ _ _ ⟨p,e,h1,h2⟩=>⟨p,e,h1,h2⟩)
      (J:=fun Hc pre W=>Ext w H W Hc∧(M9 R5 32 W (.slice none 0 0) (.slice none 0 0) (.slice none 0 0) (.int .i64 0) (.slice none 0 0) (.slice none 0 0) (.slice none 0 0) (.int .i64 0)∧Hc R5=none)∧∃v,ak2 w.heap.size B6 Hc W v (R3 pre))
      (Jx:=fun _ _ _ _=>False)
      (J2:=fun Hc pre x args aa W=>(Ext w H W Hc∧(M9 R5 32 W (.slice none 0 0) (.slice none 0 0) (.slice none 0 0) (.int .i64 0) (.slice none 0 0) (.slice none 0 0) (.slice none 0 0) (.int .i64 0)∧Hc R5=none)∧∃v,ak2 w.heap.size B6 Hc W v (R3 pre))∧∃LB p,(W.heap[LB]? =some (.cells #[.int .i64 x.1.ln,p] 142 (0,0))∧Hc LB=none)∧RdP H2 p x.1.en∧aa={tmps:= #[ah0 (.slice a0 t.h.ms.length c0) (.slice a1 t.h.bs.length c1) (.slice a2 t.h.ts.length c2) (.slice a3 t.s.mo.length c3) (.slice a4 t.s.wo.length c4) (.slice a5 t.s.wa.length c5) t,.slice ax l.length cx,.pointer (some ⟨B,0,none⟩),undef,.slice av AN.length cv,.pointer (some ⟨R5,0,none⟩),.pointer (some ⟨B6,0,none⟩),.int .i64 0,.int .i64 0,.pointer (some ⟨D,0,none⟩),u10,u11,.pointer (some ⟨LB,0,none⟩),.bool x.2,.agg #[.slice a0 t.h.ms.length c0,.slice a1 t.h.bs.length c1,.slice a2 t.h.ts.length c2,.int .i64 t.h.ch,.slice a3 t.s.mo.length c3,.slice a4 t.s.wo.length c4,.slice a5 t.s.wa.length c5,.int .i64 t.s.fr],.int .i64 0,.int .i64 0,.bool false,undef,undef,.slice ax l.length cx,.int .i64 l.length,.bool false,undef,.agg #[.slice a0 t.h.ms.length c0,.slice a1 t.h.bs.length c1,.slice a2 t.h.ts.length c2,.int .i64 t.h.ch,.slice a3 t.s.mo.length c3,.slice a4 t.s.wo.length c4,.slice a5 t.s.wa.length c5,.int .i64 t.s.fr],.agg #[.slice a0 t.h.ms.length c0,.slice a1 t.h.bs.length c1,.slice a2 t.h.ts.length c2,.int .i64 t.h.ch,.slice a3 t.s.mo.length c3,.slice a4 t.s.wo.length c4,.slice a5 t.s.wa.length c5,.int .i64 t.s.fr,.slice none 0 0],.slice ax l.length cx,.int .i64 l.length,.int .i64 l.length,.bool false,u30,u31,u32,u33,u34,u35,u36,u37,u38,u39,.slice ax l.length cx,.int .i64 l.length,.func (.func 126) #[] lb,.agg #[.int .i64 x.1.ln,p],.bool x.2,undef,undef,undef,undef,undef,undef,undef,undef,undef,undef,undef,undef,undef,undef,undef],defers:=[]})
      (fun _ _ _ _ _ h hh ht=>⟨ht.an1 h.1 hs2,h.2.1.1.turn h.2.1.2 ht,h.2.2.imp fun _ h=>h.turn ht⟩) (fun _ _ _ _ _ _ h _ _=>h) (fun _ _ _ _ _ _ _ _ h hh ht=>⟨⟨ht.an1 h.1.1 hs2,h.1.2.1.1.turn h.1.2.1.2 ht,h.1.2.2.imp fun _ h=>h.turn ht⟩,h.2.imp fun _ h=>h.imp fun _ h=>⟨ht.keep _ _ _ _ h.1.1 h.1.2,h.2⟩⟩) ⟨xG2,⟨rG,rnG⟩,_,si0⟩ ?assign ?body ?done ?stop)
     case assign=>
      rintro lp Hc pre x W args hl9 hWc K5 ⟨hxc,⟨r5c,rnc⟩,v,si⟩ ⟨p,rfl,hi,hrd⟩ hpre
      have hLn:=heap_alloc_new W (.cells #[.int .i64 x.1.ln,p] 142)
      have hWn:=hWc.D6 (fh0 W.heap.size)
      have r5a:M9 R5 32 (W.alloc (.cells #[.int .i64 x.1.ln,p] 142)) (.slice none 0 0) (.slice none 0 0) (.slice none 0 0) (.int .i64 0) (.slice none 0 0) (.slice none 0 0) (.slice none 0 0) (.int .i64 0):=⟨(heap_alloc_old W _ r5c.lt).trans r5c.at_⟩
      obtain⟨q,rfl⟩:∃q,p= .pointer q:=by
       cases he:x.1.en with
       |none=>rw[he]at hrd;exact⟨none,hrd⟩
       |some y=>rw[he]at hrd;exact⟨_,hrd.choose_spec.1⟩
      gi_wp2
      exact⟨hWc.alloc _,⟨hxc.alloc _,⟨r5a,rnc⟩,_,si.alloc _⟩,_,_,⟨hLn,hWn⟩,hrd,rfl⟩
     case body=>
      rintro lp rc Hc pre x args aa W hl9 hrc hWc K5 ⟨p',rfl,hi,du6⟩ hpre ⟨⟨hxc,⟨r5c,rnc⟩,v,si⟩,LB,p,hLB,hrd,rfl⟩
      clear du6
      have hpl:(R3 pre).length≤1000:=by
       have h1:=hpre.length_le
       have h2:=di7 pre
       simp only[ff4,ff7]at h1
       omega
      obtain⟨⟨ln,en⟩,b⟩:=x
      simp only at hrd hi hLB ⊢
      cases b with
      |false=>
       gi_wp2
       exact⟨hWc,hxc,⟨r5c,rnc⟩,_,by rw[dw3];exact si⟩
      |true=>
       obtain⟨y,hy⟩:=cr9 _ (hpre.subset (show(⟨⟨ln,en⟩,true⟩:Rec × Bool)∈pre++[(⟨ln,en⟩,true)]by simp)) rfl
       simp only at hy
       subst hy
       obtain⟨E,rfl,fv9,hE,_⟩:=hrd
       obtain⟨bv,cbv,rfl,_,_⟩:=si.o.form
       have hEc:∀W,j4 Hc W→W.cell? ⟨E,0,none⟩=some (.string y.text):=lift ((al1.trans lPG).trans K5) (fun W h=>(D7 hE h 0).trans rfl)
       have hys:y.text.size≤140737488355328:=fh1 (hrz.out _ ((List.takeWhile_prefix _).subset (di0 (hpre.subset (show(⟨⟨ln,some y⟩,true⟩:Rec × Bool)∈pre++[(⟨ln,some y⟩,true)]by simp)))) y rfl) (by decide)
       have hrep:Enc.rep Hc y.text [.string y.text]:=⟨rfl,hys⟩
       have aX9:Hid (((R3 pre).length+1)*Enc.M4 ByteArray≤140737488355328):=by show _*16≤_;omega
       have aH8:Hid ((R3 pre).length+1≤9223372036854775807):=by show _≤_;omega
       have eb1:B6≠LB:=fun e=>by
        have h:=si.c.at_
        rw[e,hLB.1]at h
        simp only[Option.some.injEq,Obj.cells.injEq]at h
        exact absurd h.2.1 (by decide)
       have hLn:(Hc.put LB (.cells #[.int .i64 ln,.pointer (some ⟨E,0,none⟩)] 142 (0,0))) B6=none:=by rw[j5.F3 _ _ eb1];exact si.c.free
       have hHS:=(hWc.put hLB.1).put si.c.at_
       have leS:=(j5.L9 hLB.2 (.cells #[.int .i64 ln,.pointer (some ⟨E,0,none⟩)] 142 (0,0))).trans (j5.L9 hLn (.cells #[.slice bv (R3 pre).length cbv] 33 (0,0)))
       have hSB:=j5.G7 (Hc.put LB (.cells #[.int .i64 ln,.pointer (some ⟨E,0,none⟩)] 142 (0,0))) B6 (.cells #[.slice bv (R3 pre).length cbv] 33 (0,0))
       have hSL:=(j5.F3 (Hc.put LB (.cells #[.int .i64 ln,.pointer (some ⟨E,0,none⟩)] 142 (0,0))) (.cells #[.slice bv (R3 pre).length cbv] 33 (0,0)) eb1.symm).trans (j5.G7 Hc LB (.cells #[.int .i64 ln,.pointer (some ⟨E,0,none⟩)] 142 (0,0)))
       have du2:∀q,(Value.slice bv (R3 pre).length cbv).ownBlock=some q→((Hc.put LB (.cells #[.int .i64 ln,.pointer (some ⟨E,0,none⟩)] 142 (0,0))).put B6 (.cells #[.slice bv (R3 pre).length cbv] 33 (0,0))) q=none:=fun q e=>by
        have h1:q≠LB:=fun e'=>si.o.P8 hLB.1 (by decide) (by rw[e,e'])
        have h2:q≠B6:=fun e'=>si.o.P8 si.c.at_ (by decide) (by rw[e,e'])
        rw[j5.F3 _ _ h2,j5.F3 _ _ h1];exact si.o.free q e
       generalize(Hc.put LB (.cells #[.int .i64 ln,.pointer (some ⟨E,0,none⟩)] 142 (0,0))).put B6 (.cells #[.slice bv (R3 pre).length cbv] 33 (0,0))=HS at*
       have hvR:some R5≠(Value.slice bv (R3 pre).length cbv).ownBlock:=fun e=>si.o.P8 r5c.at_ (by decide) e.symm
       have s0:∀W',j4 HS W'→W'.cell? ⟨B6,0,none⟩=some (.slice bv (R3 pre).length cbv):=fun W' h=>(D7 hSB h 0).trans rfl
       have s1:∀W',j4 HS W'→W'.cell? ⟨LB,1,none⟩=some (.pointer (some ⟨E,0,none⟩)):=fun W' h=>(D7 hSL h 1).trans rfl
       have s2:=lift leS hEc
       gi_upto_region 16 with fail
       refine ba2 (S:=(fun w'=>j4 HS w')) 8 (by kernel_rfl) (by kernel_rfl) (by rintro⟨_,_,h⟩;exact h) ?_ (fun N9=> ?_)
       ·(try dsimp only)
        (first|assumption|exact j4.drew ‹_›|exact j4.alloc ‹_› _|exact j4.drew (j4.alloc ‹_› _)|exact j4.alloc (j4.drew ‹_›) _)
       simp only[ff8,fg1,fh6,fh7,fg9,fg8,fg3,ff9,fg2]
       refine hdA 0 ?_
       refine hdA 1 ?_
       refine hdA 2 ?_
       refine hdA 3 ?_
       refine hdA 4 ?_
       refine hdA 5 ?_
       (try simp only[Act.put,fe7,ff1,ff2])
       refine hdR 6 [] (fun K hK=> ?_) r9.nil
       go_simp
       refine aF9 hK (fun I4=> ?_)
       clear hK K N9
       (try simp only[Act.put,fe7,ff1,ff2])
       refine hdR 7 [] (fun K hK=> ?_) r9.nil
       (refine aY8 (H:=Hc) (base:=w.heap.size) (x:=y.text) bi0 rfl _ _ rfl rfl (by first|exact(si.o.drew.alloc _)|exact(si.o.alloc _).drew) rfl hrep (by intro j' u hu;match j',hu with|0,hu=>(simp at hu;subst hu;simp[go_sem])|n+1,hu=>simp at hu) (j4.mono ‹_› leS) aX9.out aH8.out (by have h9:=hxc.below.size;simp;omega) ?_;intro v6 w6 o6 hg6 hw6 bl1;have k1:j4 HS w6:=j4.grown ‹_› hg6 du2;have x6:Ext w H w6 Hc:=Ext.grown (by first|exact(hxc.drew.alloc _)|exact(hxc.alloc _).drew) hg6 (fun q e=>(si.o.lt q e).1) si.o.free;have b6:w6.heap[B6]? =some (.cells #[.slice bv (R3 pre).length cbv] 33 (0,0)):=k1.at_ _ _ hSB;have r6:M9 R5 32 w6 (.slice none 0 0) (.slice none 0 0) (.slice none 0 0) (.int .i64 0) (.slice none 0 0) (.slice none 0 0) (.slice none 0 0) (.int .i64 0):=⟨(hg6.block R5 (by have:=r5c.lt;simp;omega) hvR).trans ((by first|exact(r5c.eg5 _)|exact(r5c.eP7 _):M9 R5 32 _ (.slice none 0 0) (.slice none 0 0) (.slice none 0 0) (.int .i64 0) (.slice none 0 0) (.slice none 0 0) (.slice none 0 0) (.int .i64 0)).at_)⟩)
       refine aF9 hK (fun F8=> ?_)
       clear hK K I4
       (try simp only[Act.put,fe7,ff1,ff2])
       refine G9 (by kernel_rfl) ?_
       simp only[ff5,ff6]
       obtain⟨b7v,c7v,rfl,_,_⟩:=o6.form
       have z6:w6.cell? ⟨B6,0,none⟩=some (.slice bv (R3 pre).length cbv):=by rw[Lib.cell_of_heap b6];rfl
       have zf6:∀i,w6.frozen? ⟨B6,i,none⟩=false:=fun i=>Lib.frozen_of_heap b6 i
       have eA2:=o6.P8 b6 (by decide)
       have c6:Cell Hc w6 w.heap.size B6 33 (.slice bv (R3 pre).length cbv):=⟨b6,si.c.free,si.c.base⟩
       go_wp2
       have x7:=x6.setCell (a:=⟨B6,0,none⟩) si.c.base si.c.free (.slice b7v (R3 pre++[y.text]).length c7v)
       have r7:M9 R5 32 (w6.setCell ⟨B6,0,none⟩ (.slice b7v (R3 pre++[y.text]).length c7v)) (.slice none 0 0) (.slice none 0 0) (.slice none 0 0) (.int .i64 0) (.slice none 0 0) (.slice none 0 0) (.slice none 0 0) (.int .i64 0):=⟨(heap_setCell_other w6 ⟨B6,0,none⟩ R5 _ hRB).trans r6.at_⟩
       have i7:ak2 w.heap.size B6 Hc (w6.setCell ⟨B6,0,none⟩ (.slice b7v (R3 pre++[y.text]).length c7v)) (.slice b7v (R3 pre++[y.text]).length c7v) (R3 pre++[y.text]):=⟨c6.set _,o6.setCell (a:=⟨B6,0,none⟩) eA2 _⟩
       have eA3:(R3 pre++[y.text]).length=(R3 pre).length+1:=by simp
       rw[eA3]at x7 r7 i7
       exact⟨x7.holds,x7,⟨r7,rnc⟩,_,by rw[di6];exact i7⟩
     case done=>
      rintro DD Hc W eW5 hWc K5 hdef ⟨hxc,⟨r5c,rnc⟩,v,si⟩
      have hDW:w.heap.size≤DD:=by omega
      obtain⟨bv,cbv,rfl,_,_⟩:=si.o.form
      have lPc:D8 HP Hc:=lPG.trans K5
      have hWX:=hWc.put si.c.at_
      have leX:=j5.L9 si.c.free (.cells #[.slice bv (R3 (U4 t (ahead recs (l.length:Int)))).length cbv] 33 (0,0))
      have hXB:=j5.G7 Hc B6 (.cells #[.slice bv (R3 (U4 t (ahead recs (l.length:Int)))).length cbv] 33 (0,0))
      have hXR:=(j5.F3 Hc (.cells #[.slice bv (R3 (U4 t (ahead recs (l.length:Int)))).length cbv] 33 (0,0)) hRB).trans rnc
      have hXD:=leX _ _ hdef
      have bR7:D8 H2 (Hc.put B6 (.cells #[.slice bv (R3 (U4 t (ahead recs (l.length:Int)))).length cbv] 33 (0,0))):=(al1.trans lPc).trans leX
      have lPX:D8 HP (Hc.put B6 (.cells #[.slice bv (R3 (U4 t (ahead recs (l.length:Int)))).length cbv] 33 (0,0))):=lPc.trans leX
      have hxX:Ext w H W (Hc.put B6 (.cells #[.slice bv (R3 (U4 t (ahead recs (l.length:Int)))).length cbv] 33 (0,0))):=⟨hxc.below,hWX,fun b hb=>(j5.F3 _ _ (by omega)).trans (hxc.same b hb)⟩
      have oX:Own (Hc.put B6 (.cells #[.slice bv (R3 (U4 t (ahead recs (l.length:Int)))).length cbv] 33 (0,0))) w.heap.size W 9 (.slice bv (R3 (U4 t (ahead recs (l.length:Int)))).length cbv) (R3 (U4 t (ahead recs (l.length:Int)))):=si.o.bg7 (fun k hk=>by
       rw[j5.F3 _ _ (fun e=>si.ne (by rw[hk,e]))];exact si.o.free k hk)
      generalize(Hc.put B6 (.cells #[.slice bv (R3 (U4 t (ahead recs (l.length:Int)))).length cbv] 33 (0,0)))=HX at*
      have eD2:=l2h.out.trans bR7
      have xE:Ext w H W He:=⟨hxX.below,hWX.mono eD2,jsm.out⟩
      have htw:=fe6 (fun(W':World) (hW':j4 HX W')=>bm4 (jdh.out.move (hW'.mono eD2) ((hW'.at_ D _ (lPX _ _ hDP)).trans jdh.out.row.symm) (fun b hb=>by
       obtain⟨cur,hr⟩:=jdh.out.own.X7 hb
       have e1:=hPr b hb
       rw[hr]at e1
       exact(hW'.at_ b _ (lPX _ _ e1)).trans hr.symm)) hv (l.length:Int))
      have s6:∀W',j4 HX W'→W'.cell? ⟨B6,0,none⟩=some (.slice bv (R3 (U4 t (ahead recs (l.length:Int)))).length cbv):=fun W' h=>(D7 hXB h 0).trans rfl
      obtain⟨vT1,vT2⟩:=aj9.1 hT9
      have hTb:(U8 t (ahead recs (l.length:Int))).h.ms.length≤100000∧(U8 t (ahead recs (l.length:Int))).h.bs.length≤100000∧(U8 t (ahead recs (l.length:Int))).h.ts.length≤100000∧(U8 t (ahead recs (l.length:Int))).s.mo.length≤100000∧(U8 t (ahead recs (l.length:Int))).s.wo.length≤100000∧(U8 t (ahead recs (l.length:Int))).s.wa.length≤100000∧∀x∈(U8 t (ahead recs (l.length:Int))).s.wo,x.length≤100000:=by
       have k1:=vT1.m3
       have k2:=vT1.b5
       have k3:=vT1.t4
       have k4:=vT2.m5
       have k5:=vT2.o6
       have k6:=vT2.w3
       refine⟨by omega,by omega,by omega,by omega,by omega,by omega,fun x hx=> ?_⟩
       have h:=List.all_eq_true.1 vT2.wo x hx
       unfold ai5 at h
       rw[fh9,decide_eq_true_eq]at h
       omega
      clear vT1 vT2 hT9
      generalize U8 t (ahead recs (l.length:Int))=T at*
      generalize R3 (U4 t (ahead recs (l.length:Int)))=BK at*
      replace hTb:=fe6 hTb
      clear hgl hrz hrl
      go_upto_region 17 with fail
      refine dW8 ?_
      refine U1 (S:=(fun w'=>j4 HX w')) 8 (by kernel_rfl) (by kernel_rfl) ?_ (fun N9=> ?_)
      ·(try dsimp only)
       (first|assumption|exact j4.drew ‹_›|exact j4.alloc ‹_› _|exact j4.drew (j4.alloc ‹_› _)|exact j4.alloc (j4.drew ‹_›) _)
      simp only[ff8,fg1,fh6,fh7,fg9,fg8,fg3,ff9,fg2]
      refine hdA 0 ?_
      refine hdA 1 ?_
      (try simp only[Act.put,fe7,ff1,ff2])
      refine hdR 2 [5] (fun K hK=> ?_) ?_
      ·go_simp
       refine aF9 hK (fun I4=> ?_)
       clear hK K N9
       (try simp only[Act.put,fe7,ff1,ff2])
       refine hdR 3 [5] (fun K hK=> ?_) ?_
       ·(go_simp;go_at_call 79;go_must (refine(htw.out _ (by first|assumption|exact j4.drew ‹_›)).mono ?_);rintro e w4 ⟨_,H4,rfl,x4,tm,tb,tt,tu,to',ta,rfl,tw4⟩;obtain⟨H4',y4,l4,s4,n4⟩:=x4.side (by first|assumption|exact j4.drew ‹_›) eD2;have xS4:Ext w H w4 H4:=Ext.trans (by first|exact xE|exact xE.drew) x4;have k4:j4 HX w4:=y4.old (by first|assumption|exact j4.drew ‹_›);have tw:=tw4.mono l4;have r54:M9 R5 32 w4 (.slice none 0 0) (.slice none 0 0) (.slice none 0 0) (.int .i64 0) (.slice none 0 0) (.slice none 0 0) (.slice none 0 0) (.int .i64 0):=M9.below (by first|exact r5c|exact r5c.drw) y4.below r5c.lt;have rn4:H4' R5=none:=(y4.same R5 r5c.lt).trans hXR;have x44:Ext w H w4 H4':=Ext.trans (by first|exact hxX|exact hxX.drew) y4;have o44:Own H4' w.heap.size w4 9 (.slice bv BK.length cbv) BK:=Own.ext (H:=HX) (by first|exact oX|exact oX.drew) (by first|assumption|exact j4.drew ‹_›) y4)
        refine aF9 hK (fun F8=> ?_)
        clear hK K I4
        (try simp only[Act.put,fe7,ff1,ff2])
        refine hdR 4 [5] (fun K hK=> ?_) ?_
        ·(go_simp;go_at_call 78;go_must (refine(aT8 _ _ _ _ _ _ T hTb.out H4 _ x4.holds tw4).mono ?_);rintro e w5 ⟨_,HS,rfl,yS,tm,tb,tt,tu,to',ta,rfl,Q0⟩;obtain⟨H5,y5,l5,_,_⟩:=yS.side y4.holds l4;have xS:=xS4.trans yS;obtain⟨q0,m0,rfl,_,_⟩:=Q0.h.m.form;obtain⟨q1,m1,rfl,_,_⟩:=Q0.h.b.form;obtain⟨q2,m2,rfl,_,_⟩:=Q0.h.t.form;obtain⟨q3,m3,rfl,_,_⟩:=Q0.s.m.form;obtain⟨q4,m4,rfl,_,_⟩:=Q0.s.o.form;obtain⟨q5,m5,rfl,_,_⟩:=Q0.s.a.form;have k5:j4 HX w5:=k4.below y5.below;have r55:=r54.below y5.below r54.lt;have rn5:H5 R5=none:=(y5.same R5 r54.lt).trans rn4;have x55:=x44.trans y5;have o55:=o44.ext y4.holds y5;have hX5:D8 HX H5:=(y4.le (by first|exact hWX|exact hWX.drew)).trans (y5.le y4.holds);obtain⟨e0,e1,e2,e3,e4,e5,e6,e7,ef⟩:=r55.cells)
         refine aF9 hK (fun F9=> ?_)
         clear hK K F8
         refine hdA 6 ?_
         (try simp only[Act.put,fe7,ff1,ff2])
         refine hdR 5 [7] (fun K hK=> ?_) ?_
         ·go_simp
          refine aF9 hK (fun I7=> ?_)
          clear hK K F9
          (try simp only[Act.put,fe7,ff1,ff2])
          refine hdR 7 [] (fun K hK=> ?_) r9.nil
          (go_wp2_with fail)
          refine hK.out _ _ (M9.setH ‹_› hXR _ _ _ _ _ _ _ _) (fun aa1=> ?_)
          clear hK K I7
          (try simp only[Act.put,fe7,ff1,ff2])
          refine G9 (by kernel_rfl) ?_
          simp only[ff5,ff6]
          obtain⟨HZ,zf8,z8,hd8,rz,hb8,hxZ,sA,twF,sZ⟩:=cG5 xS l5 hRb rn5 k5 hXR r55 o55 hXB hXD hDW Q0 hX5 (di9 jah.out fAh.out bR7 (by first|exact hWX|exact hWX.drew) k5 x4 yS)
          have zid:=aF6 z8
          clear e0 e1 e2 e3 e4 e5 e6 e7 ef tw4 x4 y4 tw y5 k4 r54 k5 x55 r55 o55
          generalize((((((((w5.setCell ⟨R5,0,none⟩ (.slice q0 T.h.ms.length m0)).setCell ⟨R5,1,none⟩ (.slice q1 T.h.bs.length m1)).setCell ⟨R5,2,none⟩ (.slice q2 T.h.ts.length m2)).setCell ⟨R5,3,none⟩ (.int .i64 T.h.ch)).setCell ⟨R5,4,none⟩ (.slice q3 T.s.mo.length m3)).setCell ⟨R5,5,none⟩ (.slice q4 T.s.wo.length m4)).setCell ⟨R5,6,none⟩ (.slice q5 T.s.wa.length m5)).setCell ⟨R5,7,none⟩ (.int .i64 T.s.fr))=w8 at*
          go_wp2_with fail
          (try rw[zid])
          (try unfold noP)
          (try dsimp only)
          (try(go_wp2_with fail))
          (try rw[zid])
          refine ak6 hd8 (av2 rfl _ _ R5 B6 32 _ (0,0) _ (.slice bv BK.length cbv) rfl rfl rz (by rw[Lib.cell_of_heap hb8];rfl) Tryz.underlying32 rfl (by kernel_rfl) (by kernel_rfl)) ?_
          exact⟨_,_,_,_,HZ,rfl,hxZ,by rw[cw4.out];exact sA,by rw[bR5.out];exact⟨_,_,_,_,_,_,rfl,twF⟩,by rw[bR4.out];exact sZ,cw5.out.symm⟩
         refine r9.cons (by simp only[ff0,fe9,fe8]<;>rfl) (fun K hK=> ?_) ?_
         ·(go_wp2_with fail)
          refine hK.out _ _ (M9.setH ‹_› hXR _ _ _ _ _ _ _ _) (fun I7=> ?_)
          clear hK K F9
          (try simp only[Act.put,fe7,ff1,ff2])
          refine hdR 5 [] (fun K hK=> ?_) r9.nil
          go_simp
          refine aF9 hK (fun aa1=> ?_)
          clear hK K I7
          (try simp only[Act.put,fe7,ff1,ff2])
          refine G9 (by kernel_rfl) ?_
          simp only[ff5,ff6]
          obtain⟨HZ,zf8,z8,hd8,rz,hb8,hxZ,sA,twF,sZ⟩:=cG5 xS l5 hRb rn5 k5 hXR r55 o55 hXB hXD hDW Q0 hX5 (di9 jah.out fAh.out bR7 (by first|exact hWX|exact hWX.drew) k5 x4 yS)
          have zid:=aF6 z8
          clear e0 e1 e2 e3 e4 e5 e6 e7 ef tw4 x4 y4 tw y5 k4 r54 k5 x55 r55 o55
          generalize((((((((w5.setCell ⟨R5,0,none⟩ (.slice q0 T.h.ms.length m0)).setCell ⟨R5,1,none⟩ (.slice q1 T.h.bs.length m1)).setCell ⟨R5,2,none⟩ (.slice q2 T.h.ts.length m2)).setCell ⟨R5,3,none⟩ (.int .i64 T.h.ch)).setCell ⟨R5,4,none⟩ (.slice q3 T.s.mo.length m3)).setCell ⟨R5,5,none⟩ (.slice q4 T.s.wo.length m4)).setCell ⟨R5,6,none⟩ (.slice q5 T.s.wa.length m5)).setCell ⟨R5,7,none⟩ (.int .i64 T.s.fr))=w8 at*
          go_wp2_with fail
          (try rw[zid])
          (try unfold noP)
          (try dsimp only)
          (try(go_wp2_with fail))
          (try rw[zid])
          refine ak6 hd8 (av2 rfl _ _ R5 B6 32 _ (0,0) _ (.slice bv BK.length cbv) rfl rfl rz (by rw[Lib.cell_of_heap hb8];rfl) Tryz.underlying32 rfl (by kernel_rfl) (by kernel_rfl)) ?_
          exact⟨_,_,_,_,HZ,rfl,hxZ,by rw[cw4.out];exact sA,by rw[bR5.out];exact⟨_,_,_,_,_,_,rfl,twF⟩,by rw[bR4.out];exact sZ,cw5.out.symm⟩
         exact r9.nil
        refine r9.cons (by simp only[ff0,fe9,fe8]<;>rfl) (fun K hK=> ?_) ?_
        ·go_simp
         refine aF9 hK (fun F9=> ?_)
         clear hK K F8
         (try simp only[Act.put,fe7,ff1,ff2])
         refine hdR 4 [] (fun K hK=> ?_) r9.nil
         (go_simp;go_at_call 78;go_must (refine(aT8 _ _ _ _ _ _ T hTb.out H4 _ x4.holds tw4).mono ?_);rintro e w5 ⟨_,HS,rfl,yS,tm,tb,tt,tu,to',ta,rfl,Q0⟩;obtain⟨H5,y5,l5,_,_⟩:=yS.side y4.holds l4;have xS:=xS4.trans yS;obtain⟨q0,m0,rfl,_,_⟩:=Q0.h.m.form;obtain⟨q1,m1,rfl,_,_⟩:=Q0.h.b.form;obtain⟨q2,m2,rfl,_,_⟩:=Q0.h.t.form;obtain⟨q3,m3,rfl,_,_⟩:=Q0.s.m.form;obtain⟨q4,m4,rfl,_,_⟩:=Q0.s.o.form;obtain⟨q5,m5,rfl,_,_⟩:=Q0.s.a.form;have k5:j4 HX w5:=k4.below y5.below;have r55:=r54.below y5.below r54.lt;have rn5:H5 R5=none:=(y5.same R5 r54.lt).trans rn4;have x55:=x44.trans y5;have o55:=o44.ext y4.holds y5;have hX5:D8 HX H5:=(y4.le (by first|exact hWX|exact hWX.drew)).trans (y5.le y4.holds);obtain⟨e0,e1,e2,e3,e4,e5,e6,e7,ef⟩:=r55.cells)
         refine aF9 hK (fun I7=> ?_)
         clear hK K F9
         refine hdA 6 ?_
         (try simp only[Act.put,fe7,ff1,ff2])
         refine hdR 7 [] (fun K hK=> ?_) r9.nil
         (go_wp2_with fail)
         refine hK.out _ _ (M9.setH ‹_› hXR _ _ _ _ _ _ _ _) (fun aa1=> ?_)
         clear hK K I7
         (try simp only[Act.put,fe7,ff1,ff2])
         refine G9 (by kernel_rfl) ?_
         simp only[ff5,ff6]
         obtain⟨HZ,zf8,z8,hd8,rz,hb8,hxZ,sA,twF,sZ⟩:=cG5 xS l5 hRb rn5 k5 hXR r55 o55 hXB hXD hDW Q0 hX5 (di9 jah.out fAh.out bR7 (by first|exact hWX|exact hWX.drew) k5 x4 yS)
         have zid:=aF6 z8
         clear e0 e1 e2 e3 e4 e5 e6 e7 ef tw4 x4 y4 tw y5 k4 r54 k5 x55 r55 o55
         generalize((((((((w5.setCell ⟨R5,0,none⟩ (.slice q0 T.h.ms.length m0)).setCell ⟨R5,1,none⟩ (.slice q1 T.h.bs.length m1)).setCell ⟨R5,2,none⟩ (.slice q2 T.h.ts.length m2)).setCell ⟨R5,3,none⟩ (.int .i64 T.h.ch)).setCell ⟨R5,4,none⟩ (.slice q3 T.s.mo.length m3)).setCell ⟨R5,5,none⟩ (.slice q4 T.s.wo.length m4)).setCell ⟨R5,6,none⟩ (.slice q5 T.s.wa.length m5)).setCell ⟨R5,7,none⟩ (.int .i64 T.s.fr))=w8 at*
         go_wp2_with fail
         (try rw[zid])
         (try unfold noP)
         (try dsimp only)
         (try(go_wp2_with fail))
         (try rw[zid])
         refine ak6 hd8 (av2 rfl _ _ R5 B6 32 _ (0,0) _ (.slice bv BK.length cbv) rfl rfl rz (by rw[Lib.cell_of_heap hb8];rfl) Tryz.underlying32 rfl (by kernel_rfl) (by kernel_rfl)) ?_
         exact⟨_,_,_,_,HZ,rfl,hxZ,by rw[cw4.out];exact sA,by rw[bR5.out];exact⟨_,_,_,_,_,_,rfl,twF⟩,by rw[bR4.out];exact sZ,cw5.out.symm⟩
        exact r9.nil
       refine r9.cons (by simp only[ff0,fe9,fe8]<;>rfl) (fun K hK=> ?_) ?_
       ·go_simp
        refine aF9 hK (fun F8=> ?_)
        clear hK K I4
        (try simp only[Act.put,fe7,ff1,ff2])
        refine hdR 3 [] (fun K hK=> ?_) r9.nil
        (go_simp;go_at_call 79;go_must (refine(htw.out _ (by first|assumption|exact j4.drew ‹_›)).mono ?_);rintro e w4 ⟨_,H4,rfl,x4,tm,tb,tt,tu,to',ta,rfl,tw4⟩;obtain⟨H4',y4,l4,s4,n4⟩:=x4.side (by first|assumption|exact j4.drew ‹_›) eD2;have xS4:Ext w H w4 H4:=Ext.trans (by first|exact xE|exact xE.drew) x4;have k4:j4 HX w4:=y4.old (by first|assumption|exact j4.drew ‹_›);have tw:=tw4.mono l4;have r54:M9 R5 32 w4 (.slice none 0 0) (.slice none 0 0) (.slice none 0 0) (.int .i64 0) (.slice none 0 0) (.slice none 0 0) (.slice none 0 0) (.int .i64 0):=M9.below (by first|exact r5c|exact r5c.drw) y4.below r5c.lt;have rn4:H4' R5=none:=(y4.same R5 r5c.lt).trans hXR;have x44:Ext w H w4 H4':=Ext.trans (by first|exact hxX|exact hxX.drew) y4;have o44:Own H4' w.heap.size w4 9 (.slice bv BK.length cbv) BK:=Own.ext (H:=HX) (by first|exact oX|exact oX.drew) (by first|assumption|exact j4.drew ‹_›) y4)
        refine aF9 hK (fun F9=> ?_)
        clear hK K F8
        (try simp only[Act.put,fe7,ff1,ff2])
        refine hdR 4 [] (fun K hK=> ?_) r9.nil
        (go_simp;go_at_call 78;go_must (refine(aT8 _ _ _ _ _ _ T hTb.out H4 _ x4.holds tw4).mono ?_);rintro e w5 ⟨_,HS,rfl,yS,tm,tb,tt,tu,to',ta,rfl,Q0⟩;obtain⟨H5,y5,l5,_,_⟩:=yS.side y4.holds l4;have xS:=xS4.trans yS;obtain⟨q0,m0,rfl,_,_⟩:=Q0.h.m.form;obtain⟨q1,m1,rfl,_,_⟩:=Q0.h.b.form;obtain⟨q2,m2,rfl,_,_⟩:=Q0.h.t.form;obtain⟨q3,m3,rfl,_,_⟩:=Q0.s.m.form;obtain⟨q4,m4,rfl,_,_⟩:=Q0.s.o.form;obtain⟨q5,m5,rfl,_,_⟩:=Q0.s.a.form;have k5:j4 HX w5:=k4.below y5.below;have r55:=r54.below y5.below r54.lt;have rn5:H5 R5=none:=(y5.same R5 r54.lt).trans rn4;have x55:=x44.trans y5;have o55:=o44.ext y4.holds y5;have hX5:D8 HX H5:=(y4.le (by first|exact hWX|exact hWX.drew)).trans (y5.le y4.holds);obtain⟨e0,e1,e2,e3,e4,e5,e6,e7,ef⟩:=r55.cells)
        refine aF9 hK (fun I7=> ?_)
        clear hK K F9
        refine hdA 6 ?_
        (try simp only[Act.put,fe7,ff1,ff2])
        refine hdR 7 [] (fun K hK=> ?_) r9.nil
        (go_wp2_with fail)
        refine hK.out _ _ (M9.setH ‹_› hXR _ _ _ _ _ _ _ _) (fun aa1=> ?_)
        clear hK K I7
        (try simp only[Act.put,fe7,ff1,ff2])
        refine G9 (by kernel_rfl) ?_
        simp only[ff5,ff6]
        obtain⟨HZ,zf8,z8,hd8,rz,hb8,hxZ,sA,twF,sZ⟩:=cG5 xS l5 hRb rn5 k5 hXR r55 o55 hXB hXD hDW Q0 hX5 (di9 jah.out fAh.out bR7 (by first|exact hWX|exact hWX.drew) k5 x4 yS)
        have zid:=aF6 z8
        clear e0 e1 e2 e3 e4 e5 e6 e7 ef tw4 x4 y4 tw y5 k4 r54 k5 x55 r55 o55
        generalize((((((((w5.setCell ⟨R5,0,none⟩ (.slice q0 T.h.ms.length m0)).setCell ⟨R5,1,none⟩ (.slice q1 T.h.bs.length m1)).setCell ⟨R5,2,none⟩ (.slice q2 T.h.ts.length m2)).setCell ⟨R5,3,none⟩ (.int .i64 T.h.ch)).setCell ⟨R5,4,none⟩ (.slice q3 T.s.mo.length m3)).setCell ⟨R5,5,none⟩ (.slice q4 T.s.wo.length m4)).setCell ⟨R5,6,none⟩ (.slice q5 T.s.wa.length m5)).setCell ⟨R5,7,none⟩ (.int .i64 T.s.fr))=w8 at*
        go_wp2_with fail
        (try rw[zid])
        (try unfold noP)
        (try dsimp only)
        (try(go_wp2_with fail))
        (try rw[zid])
        refine ak6 hd8 (av2 rfl _ _ R5 B6 32 _ (0,0) _ (.slice bv BK.length cbv) rfl rfl rz (by rw[Lib.cell_of_heap hb8];rfl) Tryz.underlying32 rfl (by kernel_rfl) (by kernel_rfl)) ?_
        exact⟨_,_,_,_,HZ,rfl,hxZ,by rw[cw4.out];exact sA,by rw[bR5.out];exact⟨_,_,_,_,_,_,rfl,twF⟩,by rw[bR4.out];exact sZ,cw5.out.symm⟩
       exact r9.nil
      refine r9.cons (by simp only[ff0,fe9,fe8]<;>rfl) (fun K hK=> ?_) ?_
      ·go_simp
       refine aF9 hK (fun I4=> ?_)
       clear hK K N9
       (try simp only[Act.put,fe7,ff1,ff2])
       refine hdR 2 [] (fun K hK=> ?_) r9.nil
       go_simp
       refine aF9 hK (fun F8=> ?_)
       clear hK K I4
       (try simp only[Act.put,fe7,ff1,ff2])
       refine hdR 3 [] (fun K hK=> ?_) r9.nil
       (go_simp;go_at_call 79;go_must (refine(htw.out _ (by first|assumption|exact j4.drew ‹_›)).mono ?_);rintro e w4 ⟨_,H4,rfl,x4,tm,tb,tt,tu,to',ta,rfl,tw4⟩;obtain⟨H4',y4,l4,s4,n4⟩:=x4.side (by first|assumption|exact j4.drew ‹_›) eD2;have xS4:Ext w H w4 H4:=Ext.trans (by first|exact xE|exact xE.drew) x4;have k4:j4 HX w4:=y4.old (by first|assumption|exact j4.drew ‹_›);have tw:=tw4.mono l4;have r54:M9 R5 32 w4 (.slice none 0 0) (.slice none 0 0) (.slice none 0 0) (.int .i64 0) (.slice none 0 0) (.slice none 0 0) (.slice none 0 0) (.int .i64 0):=M9.below (by first|exact r5c|exact r5c.drw) y4.below r5c.lt;have rn4:H4' R5=none:=(y4.same R5 r5c.lt).trans hXR;have x44:Ext w H w4 H4':=Ext.trans (by first|exact hxX|exact hxX.drew) y4;have o44:Own H4' w.heap.size w4 9 (.slice bv BK.length cbv) BK:=Own.ext (H:=HX) (by first|exact oX|exact oX.drew) (by first|assumption|exact j4.drew ‹_›) y4)
       refine aF9 hK (fun F9=> ?_)
       clear hK K F8
       (try simp only[Act.put,fe7,ff1,ff2])
       refine hdR 4 [] (fun K hK=> ?_) r9.nil
       (go_simp;go_at_call 78;go_must (refine(aT8 _ _ _ _ _ _ T hTb.out H4 _ x4.holds tw4).mono ?_);rintro e w5 ⟨_,HS,rfl,yS,tm,tb,tt,tu,to',ta,rfl,Q0⟩;obtain⟨H5,y5,l5,_,_⟩:=yS.side y4.holds l4;have xS:=xS4.trans yS;obtain⟨q0,m0,rfl,_,_⟩:=Q0.h.m.form;obtain⟨q1,m1,rfl,_,_⟩:=Q0.h.b.form;obtain⟨q2,m2,rfl,_,_⟩:=Q0.h.t.form;obtain⟨q3,m3,rfl,_,_⟩:=Q0.s.m.form;obtain⟨q4,m4,rfl,_,_⟩:=Q0.s.o.form;obtain⟨q5,m5,rfl,_,_⟩:=Q0.s.a.form;have k5:j4 HX w5:=k4.below y5.below;have r55:=r54.below y5.below r54.lt;have rn5:H5 R5=none:=(y5.same R5 r54.lt).trans rn4;have x55:=x44.trans y5;have o55:=o44.ext y4.holds y5;have hX5:D8 HX H5:=(y4.le (by first|exact hWX|exact hWX.drew)).trans (y5.le y4.holds);obtain⟨e0,e1,e2,e3,e4,e5,e6,e7,ef⟩:=r55.cells)
       refine aF9 hK (fun I7=> ?_)
       clear hK K F9
       refine hdA 6 ?_
       (try simp only[Act.put,fe7,ff1,ff2])
       refine hdR 7 [] (fun K hK=> ?_) r9.nil
       (go_wp2_with fail)
       refine hK.out _ _ (M9.setH ‹_› hXR _ _ _ _ _ _ _ _) (fun aa1=> ?_)
       clear hK K I7
       (try simp only[Act.put,fe7,ff1,ff2])
       refine G9 (by kernel_rfl) ?_
       simp only[ff5,ff6]
       obtain⟨HZ,zf8,z8,hd8,rz,hb8,hxZ,sA,twF,sZ⟩:=cG5 xS l5 hRb rn5 k5 hXR r55 o55 hXB hXD hDW Q0 hX5 (di9 jah.out fAh.out bR7 (by first|exact hWX|exact hWX.drew) k5 x4 yS)
       have zid:=aF6 z8
       clear e0 e1 e2 e3 e4 e5 e6 e7 ef tw4 x4 y4 tw y5 k4 r54 k5 x55 r55 o55
       generalize((((((((w5.setCell ⟨R5,0,none⟩ (.slice q0 T.h.ms.length m0)).setCell ⟨R5,1,none⟩ (.slice q1 T.h.bs.length m1)).setCell ⟨R5,2,none⟩ (.slice q2 T.h.ts.length m2)).setCell ⟨R5,3,none⟩ (.int .i64 T.h.ch)).setCell ⟨R5,4,none⟩ (.slice q3 T.s.mo.length m3)).setCell ⟨R5,5,none⟩ (.slice q4 T.s.wo.length m4)).setCell ⟨R5,6,none⟩ (.slice q5 T.s.wa.length m5)).setCell ⟨R5,7,none⟩ (.int .i64 T.s.fr))=w8 at*
       go_wp2_with fail
       (try rw[zid])
       (try unfold noP)
       (try dsimp only)
       (try(go_wp2_with fail))
       (try rw[zid])
       refine ak6 hd8 (av2 rfl _ _ R5 B6 32 _ (0,0) _ (.slice bv BK.length cbv) rfl rfl rz (by rw[Lib.cell_of_heap hb8];rfl) Tryz.underlying32 rfl (by kernel_rfl) (by kernel_rfl)) ?_
       exact⟨_,_,_,_,HZ,rfl,hxZ,by rw[cw4.out];exact sA,by rw[bR5.out];exact⟨_,_,_,_,_,_,rfl,twF⟩,by rw[bR4.out];exact sZ,cw5.out.symm⟩
      exact r9.nil
     case stop=>rintro _ _ _ _ _ _ _ _ _ _ h;exact h.elim
end
section
open Go.RowKit
attribute [local go_sem] j4.drew j4.alloc j4.drewN WB.holds Oper.semAt_some Q9 O1 J7
theorem eI0 (vm vb vt um uo ua lv:Value) (t:D5) (l:List ByteArray) (v:F6 t=true) (bn6:l.length≤24) (hsz:∀s∈l,s.size≤900) (H:j5) (dr:Doors H) (w:World) (hw:j4 H w) (ht:Twn H vm vb vt um uo ua t) (hs:Sl H lv l):
 Calls Tryz.prog 23 #[ah0 vm vb vt um uo ua t,lv] w (fun f w'=>∃va vt vb H',f= .returned (.tuple #[va,vt,vb,.bool true])∧Ext w H w' H'∧Own H' w.heap.size w' 9 va (Y1 t l)∧bt6 H' vt (V5 t l)∧Sl H' vb (O0 t l)):=by
 obtain⟨z1,z2,z3,z4⟩:=by2 v
 have hE:aJ8 t l=0:=aI8 v bn6
 have hA:(Y1 t l).length=l.length:=by
  rw[ap6 v bn6]
  exact eb3 t l
 have hB:(O0 t l).length≤l.length:=by
  rw[aS9 v bn6]
  have:=db0 t (aa4 (l.map A8))
  rw[bt8,fg5]at this
  exact this
 have hV:F6 (V5 t l)=true:=by rw[aK0 v bn6];exact cm4 v _
 have hG:aL1 (V5 t l)=false:=cD8 hV
 have cC:=fun(H':j5) (W:World) (hW:j4 H' W) (hle:D8 H H')=>cV8 _ _ _ _ _ _ t ⟨by omega,by omega,by omega,fun x hx=>by have:=z4 x hx;omega⟩ H' W hW (ht.mono hle)
 have cR:=fun(vm vb vt um uo ua lv:Value) (H':j5) (W:World) (hW:j4 H' W) (hle:D8 H H') (h1:Twn H' vm vb vt um uo ua t) (h2:Sl H' lv l)=>eY8 vm vb vt um uo ua lv t l hsz H' (dr.mono hle) W hW h1 h2
 have cH:=fun(vm vb vt um uo ua:Value) (H':j5) (W:World) (hW:j4 H' W) (h1:Twn H' vm vb vt um uo ua (V5 t l))=>bR3 vm vb vt um uo ua _ H' W hW h1
 have cK:=fun(vm vb vt um uo ua:Value) (H':j5) (W:World) (hW:j4 H' W) (h1:Twn H' vm vb vt um uo ua (V5 t l))=>bd5 vm vb vt um uo ua _ H' W hW h1
 rw[hV]at cK
 rw[show aH2 true=0 from rfl]at cK
 rw[hG]at cH
 unfold eD1 at cR
 rw[hE]at cR
 have hbS:Hid ((([]:List ByteArray).length+l.length)*Enc.M4 ByteArray≤140737488355328):=by show _≤_;simp only[Enc.M4,fg1];omega
 have aH8:Hid (([]:List ByteArray).length+l.length≤9223372036854775807):=by show _≤_;simp only[fg1];omega
 clear hE hV hG z1 z2 z3 z4 v
 generalize Y1 t l=A at*
 generalize V5 t l=T at*
 generalize O0 t l=K at*
 replace hA:=fe6 hA
 replace cC:=fe6 cC
 replace cR:=fe6 cR
 replace cH:=fe6 cH
 replace cK:=fe6 cK
 replace hsz:=fe6 hsz
 have bR1:Hid True:=fe6 trivial
 obtain⟨al,cl,rfl,hl1,hl2⟩:=hs.form
 obtain⟨aA,hAz⟩:∃a,Hid (A.length=a):=⟨_,rfl⟩
 go_enter Tryz.func23,Tryz.ntmps23
 go_upto_region 1 with(refine af8 rfl _ rfl (Ext.refl hw) ?_;intro B w1 H1 hle hx hB hBw;obtain⟨hc0,hc1,hc2,hc3,hc4,O8,hc6,O9⟩:=I5 hB;clear hB hw;have hw1:=hx.holds)
 have cR0:=J4.new hx Z8 32
 generalize w1.alloc (.cells Z8 32)=wA at*
 generalize w1.heap.size=R at*
 clear hx hw1
 have xA:=cR0.x
 have hwA:=xA.holds
 have dlr:=hs.mono hle
 go_upto_region 2 with(first
  |(have hgd:=bR1;clear hgd;at_builtin;go_must (refine aj2 (w0:=w) (H0:=H) bi0 rfl _ _ rfl (x2.alloc _) rfl (Own.emptyAt (heap_alloc_new _ _) x2.below.size (x2.holds.D6 (fh0 _))) rfl sl2 hbS.out aH8.out ?_);intro v3 w3 o3 x3 hw3 g3;rw[ff9]at o3;have c3':J4 w H R 32 w3 H2 Z8:=c2.cw0 (v:= .slice (some ⟨w2.heap.size,0,none⟩) 0 0) g3 (fun e=>by cases e;exact Nat.lt_irrefl _ c2.lt) (fun q e=>by cases e;exact x2.below.size) (fun q e=>by cases e;exact x2.holds.D6 (fh0 _));obtain⟨H3,x33,l3,s3,n3⟩:=o3.close x3;have c3:J4 w H R 32 w3 H3 Z8:=⟨x33,c3'.at_,c3'.ob,(n3 R (o3.P8 c3'.at_ (by decide))).trans c3'.oH⟩;clear bR1 c3')
  |(go_at_call 47;refine(cC.out _ _ hwA hle).mono ?_;rintro e w2 ⟨u,H2,rfl,y2,ym,yb,yt,zm,zo,za,rfl,tw2⟩;have x2:=xA.trans y2;have sl2:=dlr.mono (y2.le hwA);have c2:=cR0.ext y2)
  |(go_at_call 50;go_must (refine(cR.out _ _ _ _ _ _ _ _ _ x33.holds (hle.trans ((y2.le hwA).trans l3)) (tw2.mono l3) s3).mono ?_);rintro e w4 ⟨va,vt,vb,e,H4,rfl,y4,oA,⟨xm,xb,xt,xp,xq,xr,rfl,tw4⟩,sB,rfl⟩;obtain⟨pA,qA,eA,_,_⟩:=oA.form;rw[hA.out]at eA;subst eA;replace oA:=oA.weaken x33.below.size;obtain⟨pB,qB,rfl,_,_⟩:=sB.form;obtain⟨p0,q0,rfl,_,_⟩:=tw4.h.m.form;obtain⟨p1,q1,rfl,_,_⟩:=tw4.h.b.form;obtain⟨p2,q2,rfl,_,_⟩:=tw4.h.t.form;obtain⟨p3,q3,rfl,_,_⟩:=tw4.s.m.form;obtain⟨p4,q4,rfl,_,_⟩:=tw4.s.o.form;obtain⟨p5,q5,rfl,_,_⟩:=tw4.s.a.form;have x4:=x33.trans y4;have hw4:=x4.holds))
 have c4:=c3.ext y4
 have hR5:(j5.put H4 (World.heap w4).size (.cells #[.slice p0 T.h.ms.length q0,.slice p1 T.h.bs.length q1,.slice p2 T.h.ts.length q2,.int .i64 T.h.ch,.slice p3 T.s.mo.length q3,.slice p4 T.s.wo.length q4,.slice p5 T.s.wa.length q5,.int .i64 T.s.fr] 32 (0,0))) R=none:=(j5.F3 _ _ (fh5 c4.lt)).trans c4.oH
 have hAt:=(c4.alloc (.cells #[.slice p0 T.h.ms.length q0,.slice p1 T.h.bs.length q1,.slice p2 T.h.ts.length q2,.int .i64 T.h.ch,.slice p3 T.s.mo.length q3,.slice p4 T.s.wo.length q4,.slice p5 T.s.wa.length q5,.int .i64 T.s.fr] 32)).at_
 have hlt:=(c4.alloc (.cells #[.slice p0 T.h.ms.length q0,.slice p1 T.h.bs.length q1,.slice p2 T.h.ts.length q2,.int .i64 T.h.ch,.slice p3 T.s.mo.length q3,.slice p4 T.s.wo.length q4,.slice p5 T.s.wa.length q5,.int .i64 T.s.fr] 32)).lt
 have hob:=c4.ob
 have oZ:Own (j5.put H4 (World.heap w4).size (.cells #[.slice p0 T.h.ms.length q0,.slice p1 T.h.bs.length q1,.slice p2 T.h.ts.length q2,.int .i64 T.h.ch,.slice p3 T.s.mo.length q3,.slice p4 T.s.wo.length q4,.slice p5 T.s.wa.length q5,.int .i64 T.s.fr] 32 (0,0))) w.heap.size (w4.alloc (.cells #[.slice p0 T.h.ms.length q0,.slice p1 T.h.bs.length q1,.slice p2 T.h.ts.length q2,.int .i64 T.h.ch,.slice p3 T.s.mo.length q3,.slice p4 T.s.wo.length q4,.slice p5 T.s.wa.length q5,.int .i64 T.s.fr] 32)) 9 _ A:=(oA.alloc _).bg7 (fun b hb=>(j5.F3 _ _ (fh5 (oA.lt b hb).2)).trans (oA.free b hb))
 have hn_:H4 (World.heap w4).size=none:=(x4).holds.D6 (fh0 _)
 have xz:=((x4).alloc (.cells #[.slice p0 T.h.ms.length q0,.slice p1 T.h.bs.length q1,.slice p2 T.h.ts.length q2,.int .i64 T.h.ch,.slice p3 T.s.mo.length q3,.slice p4 T.s.wo.length q4,.slice p5 T.s.wa.length q5,.int .i64 T.s.fr] 32)).freeze (x4).below.size (heap_alloc_new w4 _)
 have lz:=j5.L9 hn_ (.cells #[.slice p0 T.h.ms.length q0,.slice p1 T.h.bs.length q1,.slice p2 T.h.ts.length q2,.int .i64 T.h.ch,.slice p3 T.s.mo.length q3,.slice p4 T.s.wo.length q4,.slice p5 T.s.wa.length q5,.int .i64 T.s.fr] 32 (0,0))
 have hput:=j5.G7 H4 (World.heap w4).size (.cells #[.slice p0 T.h.ms.length q0,.slice p1 T.h.bs.length q1,.slice p2 T.h.ts.length q2,.int .i64 T.h.ch,.slice p3 T.s.mo.length q3,.slice p4 T.s.wo.length q4,.slice p5 T.s.wa.length q5,.int .i64 T.s.fr] 32 (0,0))
 clear hn_
 generalize j5.put H4 (World.heap w4).size (.cells #[.slice p0 T.h.ms.length q0,.slice p1 T.h.bs.length q1,.slice p2 T.h.ts.length q2,.int .i64 T.h.ch,.slice p3 T.s.mo.length q3,.slice p4 T.s.wo.length q4,.slice p5 T.s.wa.length q5,.int .i64 T.s.fr] 32 (0,0))=H5 at*
 generalize World.alloc w4 (.cells #[.slice p0 T.h.ms.length q0,.slice p1 T.h.bs.length q1,.slice p2 T.h.ts.length q2,.int .i64 T.h.ch,.slice p3 T.s.mo.length q3,.slice p4 T.s.wo.length q4,.slice p5 T.s.wa.length q5,.int .i64 T.s.fr] 32)=wz at*
 generalize(World.heap w4).size=C at*
 obtain⟨d0,d1,d2,d3,d4,d5,d6,d7⟩:=I5 (t:=T) hput
 have hwz:=xz.holds
 have Q0:=tw4.mono lz
 have hBi:(K.length:Int)≤(l.length:Int):=by omega
 clear c4 c3 c2 cR0 x4 hw4 y4 x33 l3 s3 n3 o3 x3 hw3 g3 sl2 dlr tw2 y2 x2 cC cR hc0 hc1 hc2 hc3 hc4 O8 hc6 O9
 refine U1 (S:=(fun w'=>j4 H5 w')) 32 (by kernel_rfl) (by kernel_rfl) ?_ (fun N9=> ?_)
 ·(try dsimp only)
  (first|assumption|exact j4.drew ‹_›|exact j4.alloc ‹_› _)
 simp only[ff8,fg1,fh6,fh7,fg9,fg8,fg3,ff9,fg2]
 have xB:=xz.drew
 have rB:M9 R 32 wz.drew (.slice none 0 0) (.slice none 0 0) (.slice none 0 0) (.int .i64 0) (.slice none 0 0) (.slice none 0 0) (.slice none 0 0) (.int .i64 0):=⟨hAt⟩
 have oB:=oZ.drew
 generalize World.drew wz=wB at*
 refine hdA 0 ?_
 refine hdA 1 ?_
 refine hdA 2 ?_
 refine hdA 3 ?_
 refine hdA 4 ?_
 (try simp only[Act.put,fe7,ff1,ff2])
 refine hdA 5 ?_
 refine hdA 6 ?_
 refine hdA 7 ?_
 refine hdA 8 ?_
 refine hdA 9 ?_
 (try simp only[Act.put,fe7,ff1,ff2])
 refine hdA 10 ?_
 refine hdA 11 ?_
 refine hdA 12 ?_
 refine hdA 13 ?_
 refine hdA 14 ?_
 (try simp only[Act.put,fe7,ff1,ff2])
 refine hdA 15 ?_
 refine hdA 16 ?_
 refine hdA 17 ?_
 refine hdA 18 ?_
 refine hdA 19 ?_
 (try simp only[Act.put,fe7,ff1,ff2])
 refine hdA 20 ?_
 (try simp only[Act.put,fe7,ff1,ff2])
 refine hdR 21 [] (fun K hK=> ?_) r9.nil
 (go_simp;go_at_call 53;go_must (refine(cH.out _ _ _ _ _ _ H5 _ xB.holds Q0).mono ?_);rintro e w6 ⟨rfl,hb6⟩;have x6:=xB.step (hb6.mono xB.below.size) (xB.holds.below hb6);have r6:=rB.below hb6 rB.lt;have o6:=oB.az2 hb6)
 refine hK.out _ _ (x6.holds) (fun I4=> ?_)
 clear hK K N9
 refine hdA 22 ?_
 refine hdA 23 ?_
 refine hdA 24 ?_
 refine hdA 25 ?_
 (try simp only[Act.put,fe7,ff1,ff2])
 refine hdR 26 [] (fun K hK=> ?_) r9.nil
 (go_simp;go_at_call 49;go_must (refine(cK.out _ _ _ _ _ _ H5 _ x6.holds Q0).mono ?_);rintro e w7 ⟨rfl,hb7⟩;have x7:=x6.step (hb7.mono x6.below.size) (x6.holds.below hb7);have r7:=r6.below hb7 r6.lt;have o7:=o6.az2 hb7)
 refine hK.out _ _ (x7.holds) (fun F8=> ?_)
 clear hK K I4
 refine hdA 27 ?_
 refine hdA 28 ?_
 refine hdA 29 ?_
 (try simp only[Act.put,fe7,ff1,ff2])
 refine hdR 30 [] (fun K hK=> ?_) r9.nil
 obtain⟨e0,e1,e2,e3,e4,e5,e6,e7,ef⟩:=r7.cells
 have rz:=r7.set (.slice p0 T.h.ms.length q0) (.slice p1 T.h.bs.length q1) (.slice p2 T.h.ts.length q2) (.int .i64 T.h.ch) (.slice p3 T.s.mo.length q3) (.slice p4 T.s.wo.length q4) (.slice p5 T.s.wa.length q5) (.int .i64 T.s.fr)
 have hvR:=o7.P8 r7.at_ (by decide)
 have oW:=((((((((o7.setCell (a:=⟨R,0,none⟩) hvR (.slice p0 T.h.ms.length q0)).setCell (a:=⟨R,1,none⟩) hvR (.slice p1 T.h.bs.length q1)).setCell (a:=⟨R,2,none⟩) hvR (.slice p2 T.h.ts.length q2)).setCell (a:=⟨R,3,none⟩) hvR (.int .i64 T.h.ch)).setCell (a:=⟨R,4,none⟩) hvR (.slice p3 T.s.mo.length q3)).setCell (a:=⟨R,5,none⟩) hvR (.slice p4 T.s.wo.length q4)).setCell (a:=⟨R,6,none⟩) hvR (.slice p5 T.s.wa.length q5)).setCell (a:=⟨R,7,none⟩) hvR (.int .i64 T.s.fr))
 have xw:=Ext.aC3 x7 hob hR5 (.slice p0 T.h.ms.length q0) (.slice p1 T.h.bs.length q1) (.slice p2 T.h.ts.length q2) (.int .i64 T.h.ch) (.slice p3 T.s.mo.length q3) (.slice p4 T.s.wo.length q4) (.slice p5 T.s.wa.length q5) (.int .i64 T.s.fr)
 go_simp
 refine hK.out _ _ (xw.holds) (fun F9=> ?_)
 clear hK K F8
 refine hdA 31 ?_
 (try simp only[Act.put,fe7,ff1,ff2])
 refine G9 (by kernel_rfl) ?_
 simp only[ff5,ff6]
 go_wp2_with fail
 refine bodyPost_ret (cD7 rfl _ _ R 32 _ (0,0) _ rfl rz.at_ Tryz.underlying32 rfl (by kernel_rfl)) rfl ?_
 exact⟨_,_,_,H5,rfl,xw,by rw[←hA.out]at*;exact oW,⟨_,_,_,_,_,_,rfl,Q0⟩,sB.mono lz⟩
end
section
open Go.RowKit
attribute [local go_sem] j4.drew j4.alloc j4.drewN WB.holds Oper.semAt_some Q9 O1 J7
def eH7 (w0:World) (H0 Hs:j5) (A K:List ByteArray) (t:D5) (v1 v2 v3 v4:Value) (w:World):Prop:=∃pa qa pk qk C Hx,v1= .slice pa A.length qa∧v2= .pointer (some ⟨C,0,none⟩)∧v3= .slice pk K.length qk∧v4= .bool true∧
 Ext w0 H0 w Hx∧D8 Hs Hx∧Own Hx w0.heap.size w 9 (.slice pa A.length qa) A∧Sl Hx (.slice pk K.length qk) K∧eh9 Hx C t
theorem dj5 {w0 w:World} {H0 Hs H5:j5} {A K:List ByteArray} {T:D5} {pa pk p0 p1 p2 p3 p4 p5:Option Addr} {qa qk q0 q1 q2 q3 q4 q5 C:Nat} (x:Ext w0 H0 w H5)
 (hat:w.heap[C]? =some (.cells #[.slice p0 T.h.ms.length q0,.slice p1 T.h.bs.length q1,.slice p2 T.h.ts.length q2,.int .i64 T.h.ch,.slice p3 T.s.mo.length q3,.slice p4 T.s.wo.length q4,.slice p5 T.s.wa.length q5,.int .i64 T.s.fr] 32 (0,0))) (hob:w0.heap.size≤C) (hn:H5 C=none) (le:D8 Hs H5)
 (oA:Own H5 w0.heap.size w 9 (.slice pa A.length qa) A) (sK:Sl H5 (.slice pk K.length qk) K) (tw:Twn H5 (.slice p0 T.h.ms.length q0) (.slice p1 T.h.bs.length q1) (.slice p2 T.h.ts.length q2) (.slice p3 T.s.mo.length q3) (.slice p4 T.s.wo.length q4) (.slice p5 T.s.wa.length q5) T):
 eH7 w0 H0 Hs A K T (.slice pa A.length qa) (.pointer (some ⟨C,0,none⟩)) (.slice pk K.length qk) (.bool true) w:=
 have l:=j5.L9 hn _
 ⟨pa,qa,pk,qk,C,_,rfl,rfl,rfl,rfl,x.freeze hob hat,le.trans l,oA.bg7 (fun b hb=>(j5.F3 _ _ (fun e=>oA.P8 hat (by decide) (by rw[hb,e]))).trans (oA.free b hb)),sK.mono l,p0,q0,p1,q1,p2,q2,p3,q3,p4,q4,p5,q5,j5.G7 _ _ _,tw.mono l⟩
theorem Own.fE4 {H:j5} {base:Nat} {w:World} {e:TypeId} {v:Value} {xs:List ByteArray} {k:Nat} {x:ByteArray} (o:Own H base w e v xs) (hx:At xs k x):
 ∃g c,v= .slice (some ⟨g,0,none⟩) xs.length c∧base≤g∧H g=none∧w.cell? ⟨g,k,none⟩=some (.string x)∧w.frozen? ⟨g,k,none⟩=false∧
  ∀y:ByteArray,y.size≤140737488355328→Own H base (w.setCell ⟨g,k,none⟩ (.string y)) e v (xs.set k y):=by
 obtain⟨g,c,hv,hbg,hgn,hgl,_,hfz,hset⟩:=Own.y8 rfl o hx.lt
 subst hv
 obtain⟨ds,⟨hd,_⟩,_,_,_,hc,_⟩:=o.as9 hx
 refine⟨g,c,rfl,hbg,hgn, ?_,hfz,fun y hy=>hset y (.string y) ⟨rfl,hy⟩⟩
 have:=hc 0 (.string x) (by rw[hd];rfl)
 simpa [Enc.sz]using this
theorem ej5 (vm vb vt um uo ua lv:Value) (t:D5) (l:List ByteArray) (n:Int) (H:j5) (dr:Doors H) (w:World) (hw:j4 H w) (ht:Twn H vm vb vt um uo ua t) (hl:Sl H lv l) (hnI:K8 n):
 Calls Tryz.prog 5 #[ah0 vm vb vt um uo ua t,lv,.int .i64 n] w (I1 w (.bool true)):=by
 have cW:=fun(H':j5) (W:World) (hW:j4 H' W) (hle:D8 H H')=>aO6 H' (dr.mono hle) W hW
 have cY:=fun(H':j5) (W:World) (hW:j4 H' W) (hle:D8 H H')=>aA3 vm vb vt um uo ua lv t l H' W hW (ht.mono hle) (hl.mono hle)
 obtain⟨al,cl,rfl,hl1,hl2⟩:=hl.form
 obtain⟨ri,hwi⟩:∃r,within n 0 ((l.length:Int)-1)=r:=⟨_,rfl⟩
 obtain⟨rr,hr⟩:∃r,aF8 t l=r:=⟨_,rfl⟩
 rw[hr]at cY
 replace cW:=fe6 cW
 replace cY:=fe6 cY
 by_cases hE:ri=false∨(ri=true∧rr=false)
 ·rcases hE with rfl|⟨rfl,rfl⟩
  all_goals
   clear ht dr hl hr
   go_enter Tryz.func5,Tryz.ntmps5
   go_wp2_with(first|(refine af8 rfl _ rfl (Ext.refl hw) ?_;intro B w1 H1 hle hx hB hBw;obtain⟨hc0,hc1,hc2,hc3,hc4,O8,hc6,O9⟩:=I5 hB;clear hB hw;have hw1:=hx.holds)|((go_at_call 26;refine(aD4 _ _ _ _).mono ?_;rintro e w5 ⟨rfl,rfl⟩;rw[hwi]))|((go_at_call 17;go_must (refine(cY.out _ _ hw1 hle).mono ?_);rintro e w2 ⟨rfl,hb2⟩;have x2:=hx.step (hb2.mono hx.below.size) (hw1.below hb2);have hw2:=x2.holds))|((first|(go_at_call 18;refine(cW.out _ _ x2.holds hle).mono ?_;rintro e wz ⟨rfl,hbz⟩;have xz:=x2.step (hbz.mono x2.below.size) (x2.holds.below hbz))|(go_at_call 18;refine(cW.out _ _ hx.holds hle).mono ?_;rintro e wz ⟨rfl,hbz⟩;have xz:=hx.step (hbz.mono hx.below.size) (hx.holds.below hbz)))))
   go_ret
   exact⟨rfl,xz.below⟩
 have e1:ri=true:=by
  cases ri
  ·exact absurd (.inl rfl) hE
  ·rfl
 subst e1
 have e2:rr=true:=by
  cases rr
  ·exact absurd (.inr ⟨rfl,rfl⟩) hE
  ·rfl
 subst e2
 clear hE
 have R:=aL3.1 hr
 obtain⟨n0,n1⟩:0≤n∧n≤(l.length:Int)-1:=by unfold within at hwi;simpa using hwi
 obtain⟨N,rfl⟩:∃N:Nat,n=(N:Int):=⟨n.toNat,by omega⟩
 have hN:N<l.length:=by omega
 obtain⟨s,hsk⟩:=At.mk hN
 have hgd:l.getD N ⟨#[]⟩=s:=by rw[ff3,show l[N]? =some s from hsk];rfl
 obtain⟨bs,os,cs,hse,hss,rs⟩:=hl.str hsk
 cases hse
 have cK:=fun(H':j5) (W:World) (hW:j4 H' W)=>aI0 s (by have:=R.z s hsk.mem;omega) H' W hW
 have hN0:(0:Int)≤(N:Int):=by omega
 have hN1:(N:Int)<(l.length:Int):=by omega
 by_cases hk1:(A8 s).kind=1
 ·rw[hk1]at cK
  replace cK:=fe6 cK
  replace R:=fe6 R
  clear ht dr hl hr hgd hk1
  go_enter Tryz.func5,Tryz.ntmps5
  go_upto_region 1 with(refine af8 rfl _ rfl (Ext.refl hw) ?_;intro B w1 H1 hle hx hB hBw;obtain⟨hc0,hc1,hc2,hc3,hc4,O8,hc6,O9⟩:=I5 hB;clear hB hw;have hw1:=hx.holds)
  replace rs:=lift hle rs
  go_wp2_with(first|((go_at_call 26;refine(aD4 _ _ _ _).mono ?_;rintro e w5 ⟨rfl,rfl⟩;rw[hwi]))|((go_at_call 17;go_must (refine(cY.out _ _ hw1 hle).mono ?_);rintro e w2 ⟨rfl,hb2⟩;have x2:=hx.step (hb2.mono hx.below.size) (hw1.below hb2);have hw2:=x2.holds))|((go_at_call 16;go_must (refine(cK.out _ _ hw2).mono ?_);rintro e w9 ⟨rfl,hb9⟩;have x9:=x2.step (hb9.mono x2.below.size) (hw2.below hb9);have hw9:=x9.holds))|((go_at_call 18;refine(cW.out _ _ x9.holds hle).mono ?_;rintro e wz ⟨rfl,hbz⟩;have xz:=x9.step (hbz.mono x9.below.size) (x9.holds.below hbz))))
  go_ret
  exact⟨rfl,xz.below⟩
 have bn6:=R.n
 have hAl:(Y1 t l).length=l.length:=by rw[ap6 R.v R.n,(ax9 _ _).1]
 have fE5:(Y1 t (l.set N ⟨#[]⟩)).length=l.length:=by rw[ap6 R.v (by rw[List.length_set];exact R.n),(ax9 _ _).1,List.length_set]
 obtain⟨aN,haN⟩:=At.mk (show N<(Y1 t l).length by omega)
 obtain⟨bN,hbN⟩:=At.mk (show N<(Y1 t (l.set N ⟨#[]⟩)).length by omega)
 have law:=eD6 (t:=t) (l:=l) (n:=(N:Int)) R.v R.n (by omega) (by omega) (by rw[fh8,hgd];exact hk1)
 rw[fh8,hgd,show(Y1 t l).getD N ⟨#[]⟩=aN by rw[ff3,show(Y1 t l)[N]? =some aN from haN];rfl,
  show(Y1 t (l.set N ⟨#[]⟩)).getD N ⟨#[]⟩=bN by rw[ff3,show(Y1 t (l.set N ⟨#[]⟩))[N]? =some bN from hbN];rfl]at law
 have hsz:∀x∈l,x.size≤900:=fun x hx=>by have:=R.z x hx;omega
 have cU:=fun(H':j5) (W:World) (hW:j4 H' W) (hle:D8 H H')=>aD1 vm vb vt um uo ua _ t l R.v R.n hsz H' (dr.mono hle) W hW (ht.mono hle) (hl.mono hle)
 have cV:=fun(lv:Value) (H':j5) (W:World) (hW:j4 H' W) (hle:D8 H H') (h2:Sl H' lv (l.set N ⟨#[]⟩))=>eI0 vm vb vt um uo ua lv t (l.set N ⟨#[]⟩) R.v (by rw[List.length_set];exact R.n) (fun x hx=>by
  rcases List.mem_or_eq_of_mem_set hx with h|rfl
  ·exact hsz x h
  ·decide) H' (dr.mono hle) W hW (ht.mono hle) h2
 have cI:=fun(H':j5) (W:World) (hW:j4 H' W) (hle:D8 H H')=>cb8 _ l N ⟨#[]⟩ hN (by omega) (by decide) H' W hW (hl.mono hle)
 generalize(A8 s).kind=Kn at*
 generalize V5 t l=T at*
 generalize V5 t (l.set N ⟨#[]⟩)=T2 at*
 generalize O0 t l=K at*
 generalize O0 t (l.set N ⟨#[]⟩)=K2 at*
 generalize Y1 t l=A at*
 generalize Y1 t (l.set N ⟨#[]⟩)=A2 at*
 generalize l.set N ⟨#[]⟩=l2 at*
 have hA1:(N:Int)<(A.length:Int):=by omega
 have hA2:(N:Int)<(A2.length:Int):=by omega
 have t1:(Kn==1)=false:=beq_eq_false_iff_ne.2 hk1
 replace cK:=fe6 cK
 replace cU:=fe6 cU
 replace cV:=fe6 cV
 replace cI:=fe6 cI
 replace law:=fe6 law
 replace haN:=fe6 haN
 replace hbN:=fe6 hbN
 replace hsk:=fe6 hsk
 clear R hsz hr ht dr hl hgd hAl fE5 bn6 hss hnI n0 n1 hN
 go_enter Tryz.func5,Tryz.ntmps5
 go_upto_region 1 with(refine af8 rfl _ rfl (Ext.refl hw) ?_;intro B w1 H1 hle hx hB hBw;obtain⟨hc0,hc1,hc2,hc3,hc4,O8,hc6,O9⟩:=I5 hB;clear hB hw;have hw1:=hx.holds)
 replace rs:=lift hle rs
 go_upto_region 4 with(first|(go_at_call 26;refine(aD4 _ _ _ _).mono ?_;rintro e w5 ⟨rfl,rfl⟩;rw[hwi])|(go_at_call 17;go_must (refine(cY.out _ _ hw1 hle).mono ?_);rintro e w2 ⟨rfl,hb2⟩;have x2:=hx.step (hb2.mono hx.below.size) (hw1.below hb2);have hw2:=x2.holds)|(go_at_call 16;go_must (refine(cK.out _ _ hw2).mono ?_);rintro e w9 ⟨rfl,hb9⟩;have x9:=x2.step (hb9.mono x2.below.size) (hw2.below hb9);have hw9:=x9.holds)|(go_at_call 23;go_must (refine(cU.out _ _ hw9 hle).mono ?_);rintro e w3 ⟨_,H3,rfl,y3,va,vt',vk,rfl,sA,⟨xm,xb,xt,xp,xq,xr,rfl,tw3⟩,sK⟩;obtain⟨pA,qA,rfl,_,_⟩:=sA.form;obtain⟨pK,qK,rfl,_,_⟩:=sK.form;obtain⟨p0,pq0,rfl,_,_⟩:=tw3.h.m.form;obtain⟨p1,pq1,rfl,_,_⟩:=tw3.h.b.form;obtain⟨p2,pq2,rfl,_,_⟩:=tw3.h.t.form;obtain⟨p3,pq3,rfl,_,_⟩:=tw3.s.m.form;obtain⟨p4,pq4,rfl,_,_⟩:=tw3.s.o.form;obtain⟨p5,pq5,rfl,_,_⟩:=tw3.s.a.form;have x3:=x9.trans y3))
 have hn_:H3 (World.heap w3).size=none:=(x3).holds.D6 (fh0 _)
 have x4:=((x3).alloc (.cells #[.slice p0 T.h.ms.length pq0,.slice p1 T.h.bs.length pq1,.slice p2 T.h.ts.length pq2,.int .i64 T.h.ch,.slice p3 T.s.mo.length pq3,.slice p4 T.s.wo.length pq4,.slice p5 T.s.wa.length pq5,.int .i64 T.s.fr] 32)).freeze (x3).below.size (heap_alloc_new w3 _)
 have l4:=j5.L9 hn_ (.cells #[.slice p0 T.h.ms.length pq0,.slice p1 T.h.bs.length pq1,.slice p2 T.h.ts.length pq2,.int .i64 T.h.ch,.slice p3 T.s.mo.length pq3,.slice p4 T.s.wo.length pq4,.slice p5 T.s.wa.length pq5,.int .i64 T.s.fr] 32 (0,0))
 have eb6:=j5.G7 H3 (World.heap w3).size (.cells #[.slice p0 T.h.ms.length pq0,.slice p1 T.h.bs.length pq1,.slice p2 T.h.ts.length pq2,.int .i64 T.h.ch,.slice p3 T.s.mo.length pq3,.slice p4 T.s.wo.length pq4,.slice p5 T.s.wa.length pq5,.int .i64 T.s.fr] 32 (0,0))
 clear hn_
 generalize j5.put H3 (World.heap w3).size (.cells #[.slice p0 T.h.ms.length pq0,.slice p1 T.h.bs.length pq1,.slice p2 T.h.ts.length pq2,.int .i64 T.h.ch,.slice p3 T.s.mo.length pq3,.slice p4 T.s.wo.length pq4,.slice p5 T.s.wa.length pq5,.int .i64 T.s.fr] 32 (0,0))=H4 at*
 generalize World.alloc w3 (.cells #[.slice p0 T.h.ms.length pq0,.slice p1 T.h.bs.length pq1,.slice p2 T.h.ts.length pq2,.int .i64 T.h.ch,.slice p3 T.s.mo.length pq3,.slice p4 T.s.wo.length pq4,.slice p5 T.s.wa.length pq5,.int .i64 T.s.fr] 32)=w4 at*
 generalize(World.heap w3).size=C at*
 have l14:D8 H1 H4:=(y3.le hw9).trans l4
 replace hle:=hle.trans l14
 have twA:=tw3.mono l4
 replace sK:=sK.mono l4
 replace sA:=sA.mono l4
 replace rs:=lift l14 rs
 obtain⟨d0,d1,d2,d3,d4,d5,d6,d7⟩:=I5 (t:=T) eb6
 replace hc0:=lift l14 hc0
 replace hc1:=lift l14 hc1
 replace hc2:=lift l14 hc2
 replace hc3:=lift l14 hc3
 replace hc4:=lift l14 hc4
 replace O8:=lift l14 O8
 replace hc6:=lift l14 hc6
 replace O9:=lift l14 O9
 obtain⟨b1,o1,c1,hez,hsa,p1⟩:=sA.str haN.out
 cases hez
 have hw4:=x4.holds
 replace twA:=fe6 twA
 replace sK:=fe6 sK
 replace sA:=fe6 sA
 clear x3 y3 x9 x2 hw2 hw9 hb2 hb9 hw1 hx tw3 eb6 l14 l4 cY cU
 go_upto_region 7 with(go_at_call 16;go_must (refine(cK.out _ _ hw4).mono ?_);rintro e w5 ⟨rfl,hb5⟩;have x5:=x4.step (hb5.mono x4.below.size) (hw4.below hb5);have hw5:=x5.holds)
 clear x4 hw4 hb5
 by_cases hQ:(Kn=5∨Kn=6)∧aN≠wNo
 ·obtain⟨hK,hno⟩:=hQ
  have tN:(aN.toList==[110,111])=false:=j6 hno
  clear law
  rcases hK with rfl|rfl
  all_goals
   go_wp2_with(go_at_call 18;refine(cW.out _ _ x5.holds hle).mono ?_;rintro e wz ⟨rfl,hbz⟩;have xz:=x5.step (hbz.mono x5.below.size) (x5.holds.below hbz))
   go_ret
   exact⟨rfl,xz.below⟩
 obtain⟨eD3,fE6,eY9,fE7,fE8⟩:=law.out.resolve_left hQ
 subst fE6 fE7 fE8
 replace eY9:=fe6 eY9
 go_cut [64] (fun v wx=>v= .bool false∧Ext w H wx H4)
 case first=>
  by_cases h56:Kn=5∨Kn=6
  ·have tN:(aN.toList==[110,111])=true:=G8 (Decidable.byContradiction fun h=>hQ ⟨h56,h⟩)
   clear hQ law eD3
   rcases h56 with rfl|rfl
   all_goals
    go_wp2_with fail
    go_meet
    exact⟨rfl,x5⟩
  ·have t5:(Kn==5)=false:=beq_eq_false_iff_ne.2 (fun h=>h56 (.inl h))
   have t6:(Kn==6)=false:=beq_eq_false_iff_ne.2 (fun h=>h56 (.inr h))
   clear hQ law eD3 h56
   go_wp2_with fail
   go_meet
   exact⟨rfl,x5⟩
 case rest=>
  obtain⟨rfl,x6⟩:=hcut
  have hw6:=x6.holds
  clear x5 hw5 hQ law
  obtain⟨b0,tk,tw⟩:∃b0:Bool,(Kn==0)=b0∧(aN.toList==[119,104,97,116])=b0:=by
   by_cases h:Kn=0
   ·exact⟨true,beq_iff_eq.2 h,G8 (eD3.1 h)⟩
   ·exact⟨false,beq_eq_false_iff_ne.2 h,j6 (fun e=>h (eD3.2 e))⟩
  have aj6:=fun(W:World) (hW:j4 H4 W)=>cK.out H4 W hW
  replace aj6:=fe6 aj6
  clear eD3 cK
  go_upto_region 9 with fail
  refine E8 H4 (by kernel_rfl) (by kernel_rfl) hw6 (fun hne=> ?_)
  repeat go_big_quiet_step((first|(go_at_call 16;exact Calls.am7 (aj6.out _ (WB.holds _)))))
  refine wpQuiet_nil ?_
  rintro⟨w2,hw2,hb2⟩
  clear hne
  have x7:=x6.step (hb2.mono x6.below.size) (hw6.below hb2)
  have hbb:(b0 != b0)=false:=bne_self_eq_false b0
  clear x6 hw6 aj6
  go_upto_region 11 with fail
  go_cut [12,13,14,15] (fun v1 v2 v3 v4 wx=>eH7 w H H4 A2 K T v1 v2 v3 v4 wx)
  case first=>
   refine U1 (S:=(fun w'=>j4 H4 w')) 14 (by kernel_rfl) (by kernel_rfl) ?_ (fun N9=> ?_)
   ·(try dsimp only)
    (first|assumption|exact j4.drew ‹_›|exact j4.alloc ‹_› _)
   simp only[ff8,fg1,fh6,fh7,fg9,fg8,fg3,ff9,fg2]
   have xr0:=x7.drew
   have lr0:D8 H4 H4:=D8.refl _
   generalize World.drew w2=wr0 at*
   refine hdA 0 ?_
   refine hdA 1 ?_
   refine hdA 2 ?_
   (try simp only[Act.put,fe7,ff1,ff2])
   refine hdR 3 [10] (fun K hK=> ?_) ?_
   ·go_simp
    go_at_call 21
    go_must (refine(cI.out _ _ xr0.holds (hle.trans lr0)).mono ?_)
    rintro e wr1 ⟨_,G1,rfl,y,sM⟩
    obtain⟨pM,qM,rfl,_,_⟩:=sM.form
    have xr1:=xr0.trans y
    have lr1:=lr0.trans (y.le xr0.holds)
    have kk:=xr1.holds.mono lr1
    clear y
    refine hK.out _ _ kk (fun I4=> ?_)
    clear hK K N9
    (try simp only[Act.put,fe7,ff1,ff2])
    refine hdR 4 [10] (fun K hK=> ?_) ?_
    ·go_simp
     go_at_call 23
     go_must (refine(cV.out _ _ _ xr1.holds (hle.trans lr1) sM).mono ?_)
     rintro e wr2 ⟨va5,vt5,vk5,G2,rfl,y,oA5,tv5,sK5⟩
     obtain⟨pB,qB,rfl,_,_⟩:=oA5.form
     replace oA5:=oA5.weaken xr1.below.size
     obtain⟨pL,qL,rfl,_,_⟩:=sK5.form
     obtain⟨p0,q0,p1,q1,p2,q2,p3,q3,p4,q4,p5,q5,rfl,Q0⟩:=aW1 tv5
     have xr2:=xr1.trans y
     have lr2:=lr1.trans (y.le xr1.holds)
     have kk:=xr2.holds.mono lr2
     clear y
     refine hK.out _ _ kk (fun F8=> ?_)
     clear hK K I4
     refine hdA 5 ?_
     refine hdA 6 ?_
     refine hdA 7 ?_
     refine hdA 8 ?_
     refine hdA 9 ?_
     (try simp only[Act.put,fe7,ff1,ff2])
     refine hdR 10 [] (fun K hK=> ?_) r9.nil
     go_simp
     have ai4:=J4.new xr2 Z8 32
     replace oA5:=oA5.alloc (.cells Z8 32)
     have aL4:=ai4.x
     have kk:=aL4.holds.mono lr2
     generalize World.alloc wr2 (.cells Z8 32)=ed2 at*
     generalize(World.heap wr2).size=C2 at*
     refine hK.out _ _ kk (fun F9=> ?_)
     clear hK K F8
     refine hdA 11 ?_
     (try simp only[Act.put,fe7,ff1,ff2])
     refine hdR 12 [] (fun K hK=> ?_) r9.nil
     obtain⟨e0,e1,e2,e3,e4,e5,e6,e7,ef,rz,xz⟩:=bq9 ai4 T p0 q0 p1 q1 p2 q2 p3 q3 p4 q4 p5 q5
     have hvC:=oA5.P8 ai4.at_ (by decide)
     have oz:=((((((((oA5.setCell (a:=⟨C2,0,none⟩) hvC (.slice p0 T.h.ms.length q0)).setCell (a:=⟨C2,1,none⟩) hvC (.slice p1 T.h.bs.length q1)).setCell (a:=⟨C2,2,none⟩) hvC (.slice p2 T.h.ts.length q2)).setCell (a:=⟨C2,3,none⟩) hvC (.int .i64 T.h.ch)).setCell (a:=⟨C2,4,none⟩) hvC (.slice p3 T.s.mo.length q3)).setCell (a:=⟨C2,5,none⟩) hvC (.slice p4 T.s.wo.length q4)).setCell (a:=⟨C2,6,none⟩) hvC (.slice p5 T.s.wa.length q5)).setCell (a:=⟨C2,7,none⟩) hvC (.int .i64 T.s.fr))
     go_simp
     refine hK.out _ _ (xz.holds.mono lr2) (fun I7=> ?_)
     clear hK K F9
     refine hdA 13 ?_
     (try simp only[Act.put,fe7,ff1,ff2])
     refine G9 (by kernel_rfl) ?_
     simp only[ff5,ff6]
     go_wp2_with fail
     go_meet
     exact dj5 xz rz.at_ ai4.ob ai4.oH lr2 oz sK5 Q0
    refine r9.cons (by simp only[ff0,fe9,fe8]<;>rfl) (fun K hK=> ?_) ?_
    ·go_simp
     have ag4:=J4.new xr1 Z8 32
     have bo0:=ag4.x
     have kk:=bo0.holds.mono lr1
     generalize World.alloc wr1 (.cells Z8 32)=cx0 at*
     generalize(World.heap wr1).size=C2 at*
     refine hK.out _ _ kk (fun F8=> ?_)
     clear hK K I4
     (try simp only[Act.put,fe7,ff1,ff2])
     refine hdR 4 [] (fun K hK=> ?_) r9.nil
     go_simp
     go_at_call 23
     go_must (refine(cV.out _ _ _ bo0.holds (hle.trans lr1) sM).mono ?_)
     rintro e ed2 ⟨va5,vt5,vk5,G2,rfl,y,oA5,tv5,sK5⟩
     obtain⟨pB,qB,rfl,_,_⟩:=oA5.form
     replace oA5:=oA5.weaken bo0.below.size
     obtain⟨pL,qL,rfl,_,_⟩:=sK5.form
     obtain⟨p0,q0,p1,q1,p2,q2,p3,q3,p4,q4,p5,q5,rfl,Q0⟩:=aW1 tv5
     have aL4:=bo0.trans y
     have ai4:=ag4.ext y
     have lr2:=lr1.trans (y.le bo0.holds)
     have kk:=aL4.holds.mono lr2
     clear y
     refine hK.out _ _ kk (fun F9=> ?_)
     clear hK K F8
     refine hdA 5 ?_
     refine hdA 6 ?_
     refine hdA 7 ?_
     refine hdA 8 ?_
     refine hdA 9 ?_
     (try simp only[Act.put,fe7,ff1,ff2])
     refine hdA 11 ?_
     (try simp only[Act.put,fe7,ff1,ff2])
     refine hdR 12 [] (fun K hK=> ?_) r9.nil
     obtain⟨e0,e1,e2,e3,e4,e5,e6,e7,ef,rz,xz⟩:=bq9 ai4 T p0 q0 p1 q1 p2 q2 p3 q3 p4 q4 p5 q5
     have hvC:=oA5.P8 ai4.at_ (by decide)
     have oz:=((((((((oA5.setCell (a:=⟨C2,0,none⟩) hvC (.slice p0 T.h.ms.length q0)).setCell (a:=⟨C2,1,none⟩) hvC (.slice p1 T.h.bs.length q1)).setCell (a:=⟨C2,2,none⟩) hvC (.slice p2 T.h.ts.length q2)).setCell (a:=⟨C2,3,none⟩) hvC (.int .i64 T.h.ch)).setCell (a:=⟨C2,4,none⟩) hvC (.slice p3 T.s.mo.length q3)).setCell (a:=⟨C2,5,none⟩) hvC (.slice p4 T.s.wo.length q4)).setCell (a:=⟨C2,6,none⟩) hvC (.slice p5 T.s.wa.length q5)).setCell (a:=⟨C2,7,none⟩) hvC (.int .i64 T.s.fr))
     go_simp
     refine hK.out _ _ (xz.holds.mono lr2) (fun I7=> ?_)
     clear hK K F9
     refine hdA 13 ?_
     (try simp only[Act.put,fe7,ff1,ff2])
     refine G9 (by kernel_rfl) ?_
     simp only[ff5,ff6]
     go_wp2_with fail
     go_meet
     exact dj5 xz rz.at_ ai4.ob ai4.oH lr2 oz sK5 Q0
    exact r9.nil
   refine r9.cons (by simp only[ff0,fe9,fe8]<;>rfl) (fun K hK=> ?_) ?_
   ·go_simp
    have ag5:=J4.new xr0 Z8 32
    have cW4:=ag5.x
    have kk:=cW4.holds.mono lr0
    generalize World.alloc wr0 (.cells Z8 32)=ed3 at*
    generalize(World.heap wr0).size=C2 at*
    refine hK.out _ _ kk (fun I4=> ?_)
    clear hK K N9
    (try simp only[Act.put,fe7,ff1,ff2])
    refine hdR 3 [] (fun K hK=> ?_) r9.nil
    go_simp
    go_at_call 21
    go_must (refine(cI.out _ _ cW4.holds (hle.trans lr0)).mono ?_)
    rintro e cx0 ⟨_,G1,rfl,y,sM⟩
    obtain⟨pM,qM,rfl,_,_⟩:=sM.form
    have bo0:=cW4.trans y
    have ag4:=ag5.ext y
    have lr1:=lr0.trans (y.le cW4.holds)
    have kk:=bo0.holds.mono lr1
    clear y
    refine hK.out _ _ kk (fun F8=> ?_)
    clear hK K I4
    (try simp only[Act.put,fe7,ff1,ff2])
    refine hdR 4 [] (fun K hK=> ?_) r9.nil
    go_simp
    go_at_call 23
    go_must (refine(cV.out _ _ _ bo0.holds (hle.trans lr1) sM).mono ?_)
    rintro e ed2 ⟨va5,vt5,vk5,G2,rfl,y,oA5,tv5,sK5⟩
    obtain⟨pB,qB,rfl,_,_⟩:=oA5.form
    replace oA5:=oA5.weaken bo0.below.size
    obtain⟨pL,qL,rfl,_,_⟩:=sK5.form
    obtain⟨p0,q0,p1,q1,p2,q2,p3,q3,p4,q4,p5,q5,rfl,Q0⟩:=aW1 tv5
    have aL4:=bo0.trans y
    have ai4:=ag4.ext y
    have lr2:=lr1.trans (y.le bo0.holds)
    have kk:=aL4.holds.mono lr2
    clear y
    refine hK.out _ _ kk (fun F9=> ?_)
    clear hK K F8
    refine hdA 5 ?_
    refine hdA 6 ?_
    refine hdA 7 ?_
    refine hdA 8 ?_
    refine hdA 9 ?_
    (try simp only[Act.put,fe7,ff1,ff2])
    refine hdA 11 ?_
    (try simp only[Act.put,fe7,ff1,ff2])
    refine hdR 12 [] (fun K hK=> ?_) r9.nil
    obtain⟨e0,e1,e2,e3,e4,e5,e6,e7,ef,rz,xz⟩:=bq9 ai4 T p0 q0 p1 q1 p2 q2 p3 q3 p4 q4 p5 q5
    have hvC:=oA5.P8 ai4.at_ (by decide)
    have oz:=((((((((oA5.setCell (a:=⟨C2,0,none⟩) hvC (.slice p0 T.h.ms.length q0)).setCell (a:=⟨C2,1,none⟩) hvC (.slice p1 T.h.bs.length q1)).setCell (a:=⟨C2,2,none⟩) hvC (.slice p2 T.h.ts.length q2)).setCell (a:=⟨C2,3,none⟩) hvC (.int .i64 T.h.ch)).setCell (a:=⟨C2,4,none⟩) hvC (.slice p3 T.s.mo.length q3)).setCell (a:=⟨C2,5,none⟩) hvC (.slice p4 T.s.wo.length q4)).setCell (a:=⟨C2,6,none⟩) hvC (.slice p5 T.s.wa.length q5)).setCell (a:=⟨C2,7,none⟩) hvC (.int .i64 T.s.fr))
    go_simp
    refine hK.out _ _ (xz.holds.mono lr2) (fun I7=> ?_)
    clear hK K F9
    refine hdA 13 ?_
    (try simp only[Act.put,fe7,ff1,ff2])
    refine G9 (by kernel_rfl) ?_
    simp only[ff5,ff6]
    go_wp2_with fail
    go_meet
    exact dj5 xz rz.at_ ai4.ob ai4.oH lr2 oz sK5 Q0
   exact r9.nil
  case rest=>
   obtain⟨pB,qB,pL,qL,E,H5,rfl,rfl,rfl,rfl,x5,l5,oB,sL,p0,q0,p1',q1,p2,q2,p3,q3,p4,q4,p5,q5,ek5,Q0⟩:=hcut
   obtain⟨f0,f1,f2,f3,f4,f5,f6,f7⟩:=I5 (t:=T) ek5
   obtain⟨g,cg,hvg,hbg,hgn,hgc,hgf,hset⟩:=oB.fE4 hbN.out
   cases hvg
   have oS:=hset aN hsa
   have xS:=x5.setCell (a:=⟨g,N,none⟩) hbg hgn (.string aN)
   have tW:(ai7.toList==[119,104,97,116])=true:=G8 rfl
   rw[eY9.out]at oS
   obtain⟨H7,x7',l7,sM,_⟩:=oS.close xS
   have fE9:=(hle.trans l5).trans l7
   have l57:=l5.trans l7
   replace d0:=lift l57 d0
   replace d1:=lift l57 d1
   replace d2:=lift l57 d2
   replace d3:=lift l57 d3
   replace d4:=lift l57 d4
   replace d5:=lift l57 d5
   replace d6:=lift l57 d6
   replace d7:=lift l57 d7
   replace f0:=lift l7 f0
   replace f1:=lift l7 f1
   replace f2:=lift l7 f2
   replace f3:=lift l7 f3
   replace f4:=lift l7 f4
   replace f5:=lift l7 f5
   replace f6:=lift l7 f6
   replace f7:=lift l7 f7
   replace p1:=lift l5 p1
   have sA7:=sA.out.mono l57
   have sK7:=sK.out.mono l57
   have sL7:=sL.mono l7
   have hw5:=x5.holds
   have ak8:=fun(W:World) (hW:j4 H7 W)=>show Calls Tryz.prog 25 #[_,_] W (I1 W (.bool true))from by simpa using bK5 _ _ A A H7 W hW sA7 sM
   have cS2:=fun(W:World) (hW:j4 H7 W)=>show Calls Tryz.prog 25 #[_,_] W (I1 W (.bool true))from by simpa using bK5 _ _ K K H7 W hW sK7 sL7
   have cA:=fun(W:World) (hW:j4 H7 W)=>aU4 _ _ _ _ _ _ _ _ _ _ _ _ T H7 W hW (twA.out.mono l57) (Q0.mono l7)
   replace ak8:=fe6 ak8
   replace cS2:=fe6 cS2
   replace cA:=fe6 cA
   clear oB oS sL ek5 Q0 sA sK twA sA7 sK7 sL7 sM hset
   go_upto_region 15 with fail
   have hwS:=x7'.holds
   go_wp2_with(first|((have hgd:=hwS;clear hgd;go_at_call 25;go_must (refine(ak8.out _ hwS).mono ?_);rintro e wa ⟨rfl,hba⟩;have xa:=x7'.step (hba.mono x7'.below.size) (hwS.below hba);have hwa:=xa.holds;clear hwS))|((go_at_call 24;go_must (refine(cA.out _ hwa).mono ?_);rintro e wb ⟨rfl,fu3⟩;have xb:=xa.step (fu3.mono xa.below.size) (hwa.below fu3);have hwb:=xb.holds))|((go_at_call 25;go_must (refine(cS2.out _ hwb).mono ?_);rintro e wc ⟨rfl,hbc⟩;have xc:=xb.step (hbc.mono xb.below.size) (hwb.below hbc);have hwc:=xc.holds))|((go_at_call 18;refine(cW.out _ _ xc.holds fE9).mono ?_;rintro e wz ⟨rfl,hbz⟩;have xz:=xc.step (hbz.mono xc.below.size) (xc.holds.below hbz))))
   go_ret
   exact⟨rfl,xz.below⟩
end
end Go.Proofs.YtbliehinagkldaaGreatDoor
